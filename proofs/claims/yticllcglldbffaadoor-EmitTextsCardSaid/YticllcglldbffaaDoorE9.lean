import Derived.Test.YticllcglldbffaaDoorE8
namespace Go.Proofs.YticllcglldbffaaDoor.Ab
open Go.Proofs
set_option maxRecDepth 100000
set_option maxHeartbeats 4000000
set_option linter.unusedSimpArgs false
set_option linter.unusedVariables false
set_option linter.unnecessarySimpa false
set_option linter.unusedSectionVars false
theorem Gw.cells {s0 s : VS} {e sz n : Nat} {v : AV} {cs : List AV} (h : Gw s0 s e sz v n cs) (hn : 0 < n) : ∃ b sp c zs e', v = .sl ⟨b, 0, sp⟩ n c ∧ s.get b = some (.own ⟨cs ++ zs, e', sp.getD 0, 0, false⟩) ∧ n ≤ c / 2 ∧ s0.size ≤ b ∧ cs.length = n * sz := by
  cases h with
  | nil => omega
  | emp => omega
  | row b sp n cs h1 h2 h3 => exact ⟨b, sp, aY n, [], e, rfl, by rw [List.append_nil]; exact h1, by rw [dK]; omega, h2, h3⟩
  | room b n N cs zs e' h1 h2 h3 h4 h5 => exact ⟨b, none, bJ N, zs, e', rfl, h1, by rw [bA]; omega, h2, h3⟩
section
variable {k : Nat → List Value → Option Value} (hk : ∀ f, f ≠ 105 → f ≠ 149 → ax k f)
include hk
theorem wB (l : List Ot) (hm : l.all aW = true) (hl : l.length ≤ 100000) (ht : ∀ o ∈ l, o.2.2.2.length ≤ 100000) : PC (XK k) 30 [LO l] (tx (bd l)) := by
  refine aI fun st => ?_
  refine au7 (hk _ (by decide) (by decide)) ?_
  repeat' (first | ((first | apply ao | apply aj | apply am | apply al | apply an | apply ak | apply ai | apply ag | apply ah) <;> intro hc <;> (try (simp -implicitDefEqProofs (maxSteps := 2000000) (disch := first | omega | (simp only [ac, ae, ab]; first | done | omega)) only [push_cast, seval, wE, wW, hc])) <;> (try (exfalso; omega))) | (simp -implicitDefEqProofs (maxSteps := 2000000) (disch := first | omega | (simp only [ac, ae, ab]; first | done | omega)) only [push_cast, seval, wE, wW]))
  refine aM (fun m ρ s' => ∃ i : Nat, m = l.length - i ∧ i ≤ l.length ∧ ρ.get 0 = LO l ∧ ρ.get 3 = tx (bd (l.take i)) ∧ ρ.get 4 = .c (.int .i64 i) ∧ (s' = st)) (l.length) ⟨0, rfl, Nat.zero_le _, by (((try simp -implicitDefEqProofs only [aw, aq, au.get_set, ar, List.getD_cons_zero, List.getD_cons_succ, ↓reduceIte, reduceCtorEq, Nat.reduceEqDiff]); try (first | (with_reducible assumption) | (with_reducible rfl) | (congr 2 <;> omega) | rfl))), by (((try simp -implicitDefEqProofs only [aw, aq, au.get_set, ar, List.getD_cons_zero, List.getD_cons_succ, ↓reduceIte, reduceCtorEq, Nat.reduceEqDiff]); try (first | (with_reducible assumption) | (with_reducible rfl) | (congr 2 <;> omega) | rfl))), by (((try simp -implicitDefEqProofs only [aw, aq, au.get_set, ar, List.getD_cons_zero, List.getD_cons_succ, ↓reduceIte, reduceCtorEq, Nat.reduceEqDiff]); try (first | (with_reducible assumption) | (with_reducible rfl) | (congr 2 <;> omega) | rfl))), rfl⟩ ?_
  rintro m ρ s' ⟨i, rfl, hi, g0, g3, g4, j1⟩
  subst j1
  have htl := oY (l := l.take i) (c := 100000) (by rw [List.all_eq_true] at hm ⊢; exact fun o ho => hm o (List.mem_of_mem_take ho)) (fun o ho => ht o (List.mem_of_mem_take ho))
  rw [List.length_take] at htl
  have hmin : min i l.length * (100000 + 20) ≤ 100000 * 100020 := Nat.mul_le_mul (by omega) (by omega)
  by_cases c1 : i < l.length
  · have he := List.getElem?_eq_getElem c1
    have hto := ht _ (List.getElem_mem c1)
    have hmo := List.all_eq_true.1 hm _ (List.getElem_mem c1)
    generalize l[i] = o at he hto hmo
    have hbl := nC hmo
    have e1 : ((bd (l.take i)).length + (aL o).length ≤ 140737488355328) = True := eq_true (by omega)
    have hst : bd (l.take (i + 1)) = bd (l.take i) ++ aL o := by rw [aV he, fh]
    repeat' (first | ((first | apply ao | apply aj | apply am | apply al | apply an | apply ak | apply ai | apply ag | apply ah) <;> intro hc <;> (try (simp -implicitDefEqProofs (maxSteps := 2000000) (disch := first | omega | (simp only [ac, ae, ab]; first | done | omega)) only [push_cast, seval, wE, wW, hc, g0, g3, g4, he, e1, eO])) <;> (try (exfalso; omega))) | refine ap (JM hk o hmo (by omega)) ?_ | (simp -implicitDefEqProofs (maxSteps := 2000000) (disch := first | omega | (simp only [ac, ae, ab]; first | done | omega)) only [push_cast, seval, wE, wW, g0, g3, g4, he, e1, eO]))
    all_goals (try (exfalso; omega))
    exact ⟨_ - (i + 1), by omega, i + 1, rfl, by omega, by rw [hst], congrArg (fun z => AV.c (.int .i64 z)) (by omega)⟩
  · have hi2 : i = l.length := by omega
    subst hi2
    rw [List.take_length] at g3
    repeat' (first | ((first | apply ao | apply aj | apply am | apply al | apply an | apply ak | apply ai | apply ag | apply ah) <;> intro hc <;> (try (simp -implicitDefEqProofs (maxSteps := 2000000) (disch := first | omega | (simp only [ac, ae, ab]; first | done | omega)) only [push_cast, seval, wE, wW, hc, g0, g3, g4])) <;> (try (exfalso; omega))) | (simp -implicitDefEqProofs (maxSteps := 2000000) (disch := first | omega | (simp only [ac, ae, ab]; first | done | omega)) only [push_cast, seval, wE, wW, g0, g3, g4]))
    all_goals (try (exfalso; omega))
    exact ba (by (repeat first | assumption | exact af.refl _ | apply af.push | refine af.set ?_ (by first | omega | (simp only [ac, ae, ab]; omega) | (have h9 := af.size_le (by assumption); (try simp only [ac, ae, ab] at *); omega)) _ | refine af.drop ?_ (by first | omega | (simp only [ac, ae, ab]; omega) | (have h9 := af.size_le (by assumption); (try simp only [ac, ae, ab] at *); omega)) | refine af.trans ?_ (by assumption))) rfl
theorem H1 (l : List Ot) (hl : l.length ≤ 100000) (ht : ∀ o ∈ l, o.2.2.2.length ≤ 100000) : PC (XK k) 28 [LO l] (.c (.bool (l.all aW))) := by
  refine aI fun st => ?_
  refine asU (hk _ (by decide) (by decide)) ?_
  repeat' (first | ((first | apply ao | apply aj | apply am | apply al | apply an | apply ak | apply ai | apply ag | apply ah) <;> intro hc <;> (try (simp -implicitDefEqProofs (maxSteps := 2000000) (disch := first | omega | (simp only [ac, ae, ab]; first | done | omega)) only [push_cast, seval, pY, qD, p7, hc])) <;> (try (exfalso; omega))) | (simp -implicitDefEqProofs (maxSteps := 2000000) (disch := first | omega | (simp only [ac, ae, ab]; first | done | omega)) only [push_cast, seval, pY, qD, p7]))
  refine aM (fun m ρ s' => ∃ i : Nat, m = l.length - i ∧ i ≤ l.length ∧ ρ.get 0 = LO l ∧ ρ.get 3 = .c (.int .i64 i) ∧ ((l.take i).all aW = true) ∧ (s' = st)) (l.length) ⟨0, rfl, Nat.zero_le _, by (((try simp -implicitDefEqProofs only [aw, aq, au.get_set, ar, List.getD_cons_zero, List.getD_cons_succ, ↓reduceIte, reduceCtorEq, Nat.reduceEqDiff]); try (first | (with_reducible assumption) | (with_reducible rfl) | (congr 2 <;> omega) | rfl))), by (((try simp -implicitDefEqProofs only [aw, aq, au.get_set, ar, List.getD_cons_zero, List.getD_cons_succ, ↓reduceIte, reduceCtorEq, Nat.reduceEqDiff]); try (first | (with_reducible assumption) | (with_reducible rfl) | (congr 2 <;> omega) | rfl))), rfl, rfl⟩ ?_
  rintro m ρ s' ⟨i, rfl, hi, g0, g3, j1, j2⟩
  subst j2
  by_cases c1 : i < l.length
  · have he := List.getElem?_eq_getElem c1
    have hto := ht _ (List.getElem_mem c1)
    have hmem := List.getElem_mem c1
    generalize l[i] = o at he hto hmem
    have w := HH hk o (by omega)
    cases hmo : aW o with
    | true =>
      rw [hmo] at w
      repeat' (first | ((first | apply ao | apply aj | apply am | apply al | apply an | apply ak | apply ai | apply ag | apply ah) <;> intro hc <;> (try (simp -implicitDefEqProofs (maxSteps := 2000000) (disch := first | omega | (simp only [ac, ae, ab]; first | done | omega)) only [push_cast, seval, pY, qD, p7, hc, g0, g3, he, eO])) <;> (try (exfalso; omega))) | refine ap (w) ?_ | (simp -implicitDefEqProofs (maxSteps := 2000000) (disch := first | omega | (simp only [ac, ae, ab]; first | done | omega)) only [push_cast, seval, pY, qD, p7, g0, g3, he, eO]))
      all_goals (try (exfalso; omega))
      refine ⟨_ - (i + 1), by omega, i + 1, rfl, by omega, congrArg (fun z => AV.c (.int .i64 z)) (by omega), ?_⟩
      rw [aV he, List.all_append, j1]
      simp [hmo]
    | false =>
      rw [hmo] at w
      have hna : l.all aW = false := by
        rw [List.all_eq_false]
        exact ⟨o, hmem, by rw [hmo]; decide⟩
      repeat' (first | ((first | apply ao | apply aj | apply am | apply al | apply an | apply ak | apply ai | apply ag | apply ah) <;> intro hc <;> (try (simp -implicitDefEqProofs (maxSteps := 2000000) (disch := first | omega | (simp only [ac, ae, ab]; first | done | omega)) only [push_cast, seval, pY, qD, p7, hc, g0, g3, he, eO])) <;> (try (exfalso; omega))) | refine ap (w) ?_ | (simp -implicitDefEqProofs (maxSteps := 2000000) (disch := first | omega | (simp only [ac, ae, ab]; first | done | omega)) only [push_cast, seval, pY, qD, p7, g0, g3, he, eO]))
      all_goals (try (exfalso; omega))
      exact aK (by (repeat first | assumption | exact af.refl _ | apply af.push | refine af.set ?_ (by first | omega | (simp only [ac, ae, ab]; omega) | (have h9 := af.size_le (by assumption); (try simp only [ac, ae, ab] at *); omega)) _ | refine af.drop ?_ (by first | omega | (simp only [ac, ae, ab]; omega) | (have h9 := af.size_le (by assumption); (try simp only [ac, ae, ab] at *); omega)) | refine af.trans ?_ (by assumption))) hna.symm
  · have hi2 : i = l.length := by omega
    subst hi2
    rw [List.take_length] at j1
    repeat' (first | ((first | apply ao | apply aj | apply am | apply al | apply an | apply ak | apply ai | apply ag | apply ah) <;> intro hc <;> (try (simp -implicitDefEqProofs (maxSteps := 2000000) (disch := first | omega | (simp only [ac, ae, ab]; first | done | omega)) only [push_cast, seval, pY, qD, p7, hc, g0, g3])) <;> (try (exfalso; omega))) | (simp -implicitDefEqProofs (maxSteps := 2000000) (disch := first | omega | (simp only [ac, ae, ab]; first | done | omega)) only [push_cast, seval, pY, qD, p7, g0, g3]))
    all_goals (try (exfalso; omega))
    exact aK (by (repeat first | assumption | exact af.refl _ | apply af.push | refine af.set ?_ (by first | omega | (simp only [ac, ae, ab]; omega) | (have h9 := af.size_le (by assumption); (try simp only [ac, ae, ab] at *); omega)) _ | refine af.drop ?_ (by first | omega | (simp only [ac, ae, ab]; omega) | (have h9 := af.size_le (by assumption); (try simp only [ac, ae, ab] at *); omega)) | refine af.trans ?_ (by assumption))) j1.symm
theorem ja (a b : List Ot) (hn : a.length < 1099511627776) : PC (XK k) 25 [LO a, LO b] (.c (.bool (decide (a = b)))) := by
  refine aI fun s => ?_
  refine avC (hk _ (by decide) (by decide)) ?_
  (try (simp -implicitDefEqProofs (maxSteps := 2000000) (disch := first | omega | (simp only [ac, ae, ab]; first | done | omega)) only [push_cast, seval, xh, wO, xS])) <;> (repeat' ((first | apply ao | apply aj | apply am | apply al | apply an | apply ak | apply ai | apply ag | apply ah) <;> intro hc <;> try (simp -implicitDefEqProofs (maxSteps := 2000000) (disch := first | omega | (simp only [ac, ae, ab]; first | done | omega)) only [push_cast, seval, xh, wO, xS, hc])))
  · exact aK (by (repeat first | assumption | exact af.refl _ | apply af.push | refine af.set ?_ (by first | omega | (simp only [ac, ae, ab]; omega) | (have h9 := af.size_le (by assumption); (try simp only [ac, ae, ab] at *); omega)) _ | refine af.drop ?_ (by first | omega | (simp only [ac, ae, ab]; omega) | (have h9 := af.size_le (by assumption); (try simp only [ac, ae, ab] at *); omega)) | refine af.trans ?_ (by assumption))) (by symm; simp; rintro rfl; exact hc rfl)
  · have hl : a.length = b.length := by omega
    refine aM (fun m ρ s' => ∃ i : Nat, m = a.length - i ∧ i ≤ a.length ∧ ρ.get 0 = LO a ∧ ρ.get 1 = LO b ∧ ρ.get 5 = .c (.int .i64 i) ∧ (s' = s) ∧ (a.take i = b.take i)) (a.length) ⟨0, rfl, Nat.zero_le _, by (((try simp -implicitDefEqProofs only [aw, aq, au.get_set, ar, List.getD_cons_zero, List.getD_cons_succ, ↓reduceIte, reduceCtorEq, Nat.reduceEqDiff]); try (first | (with_reducible assumption) | (with_reducible rfl) | (congr 2 <;> omega) | rfl))), by (((try simp -implicitDefEqProofs only [aw, aq, au.get_set, ar, List.getD_cons_zero, List.getD_cons_succ, ↓reduceIte, reduceCtorEq, Nat.reduceEqDiff]); try (first | (with_reducible assumption) | (with_reducible rfl) | (congr 2 <;> omega) | rfl))), by (((try simp -implicitDefEqProofs only [aw, aq, au.get_set, ar, List.getD_cons_zero, List.getD_cons_succ, ↓reduceIte, reduceCtorEq, Nat.reduceEqDiff]); try (first | (with_reducible assumption) | (with_reducible rfl) | (congr 2 <;> omega) | rfl))), rfl, rfl⟩ ?_
    rintro m ρ s' ⟨i, rfl, hi, g0, g1, g5, j1, j2⟩
    subst j1
    (try (simp -implicitDefEqProofs (maxSteps := 2000000) (disch := first | omega | (simp only [ac, ae, ab]; first | done | omega)) only [push_cast, seval, xh, wO, xS, g0, g1, g5])) <;> (repeat' ((first | apply ao | apply aj | apply am | apply al | apply an | apply ak | apply ai | apply ag | apply ah) <;> intro hc <;> try (simp -implicitDefEqProofs (maxSteps := 2000000) (disch := first | omega | (simp only [ac, ae, ab]; first | done | omega)) only [push_cast, seval, xh, wO, xS, hc, g0, g1, g5])))
    · have hil : i < a.length := by omega
      have hx := List.getElem?_eq_getElem hil
      have hy := List.getElem?_eq_getElem (show i < b.length by omega)
      generalize a[i] = x at hx
      generalize b[i] = y at hy
      (try (simp -implicitDefEqProofs (maxSteps := 2000000) (disch := first | omega | (simp only [ac, ae, ab]; first | done | omega)) only [push_cast, seval, xh, wO, xS, g0, g1, g5, hx, hy, eO])) <;> (repeat' ((first | apply ao | apply aj | apply am | apply al | apply an | apply ak | apply ai | apply ag | apply ah) <;> intro hc <;> try (simp -implicitDefEqProofs (maxSteps := 2000000) (disch := first | omega | (simp only [ac, ae, ab]; first | done | omega)) only [push_cast, seval, xh, wO, xS, hc, g0, g1, g5, hx, hy, eO])))
      · exact aK (by (repeat first | assumption | exact af.refl _ | apply af.push | refine af.set ?_ (by first | omega | (simp only [ac, ae, ab]; omega) | (have h9 := af.size_le (by assumption); (try simp only [ac, ae, ab] at *); omega)) _ | refine af.drop ?_ (by first | omega | (simp only [ac, ae, ab]; omega) | (have h9 := af.size_le (by assumption); (try simp only [ac, ae, ab] at *); omega)) | refine af.trans ?_ (by assumption))) (by symm; rw [decide_eq_false_iff_not]; rintro rfl; rw [hx] at hy; cases hy; simp at hc)
      · refine ⟨_ - (i + 1), by omega, i + 1, rfl, by omega, ?_⟩ <;> (try simp only [Int.natCast_add, Int.natCast_one, nP, and_true, true_and, eq_self])
        rw [aV hx, aV hy, j2]
        simp at hc
        rw [anC hc.1 hc.2.1 hc.2.2.1 hc.2.2.2]
    · have : i = a.length := by omega
      subst this
      rw [List.take_length, hl, List.take_length] at j2
      exact aK (by (repeat first | assumption | exact af.refl _ | apply af.push | refine af.set ?_ (by first | omega | (simp only [ac, ae, ab]; omega) | (have h9 := af.size_le (by assumption); (try simp only [ac, ae, ab] at *); omega)) _ | refine af.drop ?_ (by first | omega | (simp only [ac, ae, ab]; omega) | (have h9 := af.size_le (by assumption); (try simp only [ac, ae, ab] at *); omega)) | refine af.trans ?_ (by assumption))) (by symm; exact decide_eq_true j2)
omit hk in
theorem ww (J : List Ot) (o : Ot) : ((mM J o).map fun o => o.2.2.2.length).sum = (J.map fun o => o.2.2.2.length).sum + o.2.2.2.length := by
  rcases bF J with rfl | ⟨J0, x, rfl⟩
  · simp [eX]
  · rw [bE]
    split <;> simp <;> omega
theorem lO (l : List Ot) (hl : l.length ≤ 100000) (ht : ∀ o ∈ l, o.2.2.2.length ≤ 100000) : PC (XK k) 31 [LO l] (LO (a7 l)) := by
  refine aI fun st => ?_
  refine atU (hk _ (by decide) (by decide)) ?_
  repeat' (first | ((first | apply ao | apply aj | apply am | apply al | apply an | apply ak | apply ai | apply ag | apply ah) <;> intro hc <;> (try (simp -implicitDefEqProofs (maxSteps := 2000000) (disch := first | omega | (simp only [ac, ae, ab]; first | done | omega)) only [push_cast, seval, eP, eN, eQ, hc])) <;> (try (exfalso; omega))) | (simp -implicitDefEqProofs (maxSteps := 2000000) (disch := first | omega | (simp only [ac, ae, ab]; first | done | omega)) only [push_cast, seval, eP, eN, eQ]))
  refine aM (fun m ρ s' => ∃ i : Nat, m = l.length - i ∧ i ≤ l.length ∧ ρ.get 0 = LO l ∧ ρ.get 4 = .c (.int .i64 i) ∧ (∃ J v, J = a7 (l.take i) ∧ ρ.get 3 = v ∧ Gw st s' 44 4 v J.length (J.map eO).flatten ∧ (i = 0 → v = .c (.slice none 0 0)) ∧ (0 < i → 0 < J.length) ∧ J.length ≤ i ∧ (J.map fun o => o.2.2.2.length).sum ≤ i * 100000) ∧ (af st s')) (l.length) ⟨0, rfl, Nat.zero_le _, by (((try simp -implicitDefEqProofs only [aw, aq, au.get_set, ar, List.getD_cons_zero, List.getD_cons_succ, ↓reduceIte, reduceCtorEq, Nat.reduceEqDiff]); try (first | (with_reducible assumption) | (with_reducible rfl) | (congr 2 <;> omega) | rfl))), by (((try simp -implicitDefEqProofs only [aw, aq, au.get_set, ar, List.getD_cons_zero, List.getD_cons_succ, ↓reduceIte, reduceCtorEq, Nat.reduceEqDiff]); try (first | (with_reducible assumption) | (with_reducible rfl) | (congr 2 <;> omega) | rfl))), ⟨[], _, rfl, by (((try simp -implicitDefEqProofs only [aw, aq, au.get_set, ar, List.getD_cons_zero, List.getD_cons_succ, ↓reduceIte, reduceCtorEq, Nat.reduceEqDiff]); try (first | (with_reducible assumption) | (with_reducible rfl) | (congr 2 <;> omega) | rfl))), .nil, fun _ => rfl, fun h => absurd h (Nat.lt_irrefl _), Nat.le_refl _, by simp⟩, by (repeat first | assumption | exact af.refl _ | apply af.push | refine af.set ?_ (by first | omega | (simp only [ac, ae, ab]; omega) | (have h9 := af.size_le (by assumption); (try simp only [ac, ae, ab] at *); omega)) _ | refine af.drop ?_ (by first | omega | (simp only [ac, ae, ab]; omega) | (have h9 := af.size_le (by assumption); (try simp only [ac, ae, ab] at *); omega)) | refine af.trans ?_ (by assumption))⟩ ?_
  rintro m ρ s' ⟨i, rfl, hi, g0, g4, j1, j2⟩
  obtain ⟨J, v, hJ, g3, k1, k2, k3, k4, k5⟩ := j1
  by_cases c1 : i < l.length
  · have he := List.getElem?_eq_getElem c1
    have hto := ht _ (List.getElem_mem c1)
    generalize l[i] = o at he hto
    have hst : a7 (l.take (i + 1)) = mM J o := by rw [aV he, dE, hJ]
    have htj := ww J o
    by_cases c2 : i = 0
    · subst c2
      have hv := k2 rfl
      subst hv
      have hJ0 : J = [] := hJ
      subst hJ0
      repeat' (first | ((first | apply ao | apply aj | apply am | apply al | apply an | apply ak | apply ai | apply ag | apply ah) <;> intro hc <;> (try (simp -implicitDefEqProofs (maxSteps := 2000000) (disch := first | omega | (simp only [ac, ae, ab]; first | done | omega)) only [push_cast, seval, eP, eN, eQ, hc, g0, g3, g4, he, eO])) <;> (try (exfalso; omega))) | (simp -implicitDefEqProofs (maxSteps := 2000000) (disch := first | omega | (simp only [ac, ae, ab]; first | done | omega)) only [push_cast, seval, eP, eN, eQ, g0, g3, g4, he, eO]))
      all_goals (try (exfalso; omega))
      refine Gw.step (sz := 4) (k1.push _) (by (repeat first | assumption | exact af.refl _ | apply af.push | refine af.set ?_ (by first | omega | (simp only [ac, ae, ab]; omega) | (have h9 := af.size_le (by assumption); (try simp only [ac, ae, ab] at *); omega)) _ | refine af.drop ?_ (by first | omega | (simp only [ac, ae, ab]; omega) | (have h9 := af.size_le (by assumption); (try simp only [ac, ae, ab] at *); omega)) | refine af.trans ?_ (by assumption))) rfl rfl (pi o) (cp (by constructor <;> (try dsimp only) <;> omega)) ?_
      intro v2 s2 hg _ _ hkp
      (try (simp -implicitDefEqProofs (maxSteps := 2000000) (disch := first | omega | (simp only [ac, ae, ab]; first | done | omega)) only [push_cast, seval, eP, eN, eQ, g0, g3, g4])) <;> (repeat' ((first | apply ao | apply aj | apply am | apply al | apply an | apply ak | apply ai | apply ag | apply ah) <;> intro hc <;> try (simp -implicitDefEqProofs (maxSteps := 2000000) (disch := first | omega | (simp only [ac, ae, ab]; first | done | omega)) only [push_cast, seval, eP, eN, eQ, hc, g0, g3, g4])))
      exact ⟨_ - (0 + 1), by omega, 0 + 1, rfl, by omega, rfl, ⟨[o], v2, hst.symm, rfl, by simpa [eO] using hg, fun h => by omega, fun _ => by simp, by simp, by simpa using hto⟩, hkp⟩
    · obtain ⟨b, sp, c, zs, e', rfl, m1, m2, m3, m4⟩ := k1.cells (k3 (by omega))
      rcases bF J with rfl | ⟨J0, x, rfl⟩
      · exact absurd (k3 (by omega)) (by simp)
      · have hJl : (J0 ++ [x]).length = J0.length + 1 := by simp
        have hfl := pj jq J0
        have hCC : ((J0 ++ [x]).map eO).flatten ++ zs = (J0.map eO).flatten ++ (eO x ++ zs) := by simp
        have hxs : x.2.2.2.length ≤ i * 100000 := by
          have : ((J0 ++ [x]).map fun o => o.2.2.2.length).sum = (J0.map fun o => o.2.2.2.length).sum + x.2.2.2.length := by simp
          omega
        rw [hCC] at m1
        rw [hJl] at g3 m2 k4
        have k1' := k1
        obtain ⟨C, hC⟩ : ∃ C, C = (J0.map eO).flatten ++ (eO x ++ zs) := ⟨_, rfl⟩
        have hCl : C.length = J0.length * 4 + (4 + zs.length) := by rw [hC, List.length_append, hfl, List.length_append, jq]
        have r4 : List.take 4 (List.drop (J0.length * 4) C) = [.c (.int .i64 x.1), .c (.int .i64 x.2.1), .c (.int .i64 x.2.2.1), tx x.2.2.2] := by
          rw [hC, List.drop_left' hfl]; rfl
        have r1 : List.take 1 (List.drop (J0.length * 4) C) = [.c (.int .i64 x.1)] := by
          rw [hC, List.drop_left' hfl]; rfl
        have rJ : List.take (J0.length * 4) C = (J0.map eO).flatten := by rw [hC, List.take_left' hfl]
        rw [← hC] at m1
        have z1 := VS.lt_of_get m1
        have hW1 : (J0.length : Int) + 1 - 1 = J0.length := by omega
        have hi0 : 0 < J0.length + 1 := by omega
        rw [bE] at hst htj
        by_cases c3 : o.1 = 0 ∧ x.1 = 0
        · rw [if_pos c3] at hst htj
          have q1 := c3.1
          have q2 := c3.2
          have hi5 : i * 100000 ≤ 100000 * 100000 := Nat.mul_le_mul (by omega) (Nat.le_refl _)
          have e1 : (x.2.2.2.length + o.2.2.2.length ≤ 140737488355328) = True := eq_true (by omega)
          rw [q2] at r4 r1
          repeat' (first | ((first | apply ao | apply aj | apply am | apply al | apply an | apply ak | apply ai | apply ag | apply ah) <;> intro hc <;> (try (simp -implicitDefEqProofs (maxSteps := 2000000) (disch := first | omega | (simp only [ac, ae, ab]; first | done | omega)) only [push_cast, seval, eP, eN, eQ, hc, g0, g3, g4, he, eO, m1, r1, r4, hCl, z1, hW1, q1, rJ, iS, e1])) <;> (try (exfalso; omega))) | (simp -implicitDefEqProofs (maxSteps := 2000000) (disch := first | omega | (simp only [ac, ae, ab]; first | done | omega)) only [push_cast, seval, eP, eN, eQ, g0, g3, g4, he, eO, m1, r1, r4, hCl, z1, hW1, q1, rJ, iS, e1]))
          all_goals (try (exfalso; omega))
          refine Gw.step (sz := 4) (Gw.room (s0 := st) (e := 44) (s'.size + 1) 0 0 [] [] _ (bB rfl) (by have := j2.1; omega) rfl rfl (Nat.le_refl _)) (by (repeat first | assumption | exact af.refl _ | apply af.push | refine af.set ?_ (by first | omega | (simp only [ac, ae, ab]; omega) | (have h9 := af.size_le (by assumption); (try simp only [ac, ae, ab] at *); omega)) _ | refine af.drop ?_ (by first | omega | (simp only [ac, ae, ab]; omega) | (have h9 := af.size_le (by assumption); (try simp only [ac, ae, ab] at *); omega)) | refine af.trans ?_ (by assumption))) rfl (by rw [hfl]) (vb pi) (cp (by constructor <;> (try dsimp only) <;> omega)) ?_
          intro v2 s2 hg hbt _ hkp
          have u := hbt.2 s'.size (by simp only [ac, ae]; omega) (by simp [bR])
          have u1 := u.1
          have u2 := u.2
          simp only [YT, eZ] at u2
          rw [dN (by simp only [ae, ac]; omega), ef rfl (by simp only [ae, ac]; omega)] at u1
          have z2 := VS.lt_of_get u1
          (try (simp -implicitDefEqProofs (maxSteps := 2000000) (disch := first | omega | (simp only [ac, ae, ab]; first | done | omega)) only [push_cast, seval, eP, eN, eQ, g0, g3, g4, u1, u2, z2])) <;> (repeat' ((first | apply ao | apply aj | apply am | apply al | apply an | apply ak | apply ai | apply ag | apply ah) <;> intro hc <;> try (simp -implicitDefEqProofs (maxSteps := 2000000) (disch := first | omega | (simp only [ac, ae, ab]; first | done | omega)) only [push_cast, seval, eP, eN, eQ, hc, g0, g3, g4, u1, u2, z2])))
          refine Gw.step (sz := 4) (hg.push _) (by (repeat first | assumption | exact af.refl _ | apply af.push | refine af.set ?_ (by first | omega | (simp only [ac, ae, ab]; omega) | (have h9 := af.size_le (by assumption); (try simp only [ac, ae, ab] at *); omega)) _ | refine af.drop ?_ (by first | omega | (simp only [ac, ae, ab]; omega) | (have h9 := af.size_le (by assumption); (try simp only [ac, ae, ab] at *); omega)) | refine af.trans ?_ (by assumption))) rfl rfl rfl (cp (by constructor <;> (try dsimp only) <;> omega)) ?_
          intro v3 s3 hg3 _ _ hkp3
          (try (simp -implicitDefEqProofs (maxSteps := 2000000) (disch := first | omega | (simp only [ac, ae, ab]; first | done | omega)) only [push_cast, seval, eP, eN, eQ, g0, g3, g4])) <;> (repeat' ((first | apply ao | apply aj | apply am | apply al | apply an | apply ak | apply ai | apply ag | apply ah) <;> intro hc <;> try (simp -implicitDefEqProofs (maxSteps := 2000000) (disch := first | omega | (simp only [ac, ae, ab]; first | done | omega)) only [push_cast, seval, eP, eN, eQ, hc, g0, g3, g4])))
          refine ⟨?_, _ - (i + 1), by omega, i + 1, rfl, by omega, congrArg (fun z => AV.c (.int .i64 z)) (by omega), ⟨J0 ++ [(x.1, x.2.1, x.2.2.1, x.2.2.2 ++ o.2.2.2)], v3, hst.symm, rfl, hg3.cast (by simp) (by simp [eO, q2]), fun h => by omega, fun _ => by simp, by simp; omega, by rw [htj]; omega⟩, hkp3⟩
          obtain ⟨a3, c3', rfl⟩ := hg3.isSl (by omega)
          rfl
        · rw [if_neg c3] at hst htj
          have k6 : Gw st s' 44 4 (.sl ⟨b, 0, sp⟩ (J0.length + 1) c) (J0.length + 1) ((J0 ++ [x]).map eO).flatten := by rw [← hJl]; exact k1
          repeat' (first | ((first | apply ao | apply aj | apply am | apply al | apply an | apply ak | apply ai | apply ag | apply ah) <;> intro hc <;> (try (simp -implicitDefEqProofs (maxSteps := 2000000) (disch := first | omega | (simp only [ac, ae, ab]; first | done | omega)) only [push_cast, seval, eP, eN, eQ, hc, g0, g3, g4, he, eO, m1, r1, r4, hCl, z1, hW1])) <;> (try (exfalso; omega))) | (simp -implicitDefEqProofs (maxSteps := 2000000) (disch := first | omega | (simp only [ac, ae, ab]; first | done | omega)) only [push_cast, seval, eP, eN, eQ, g0, g3, g4, he, eO, m1, r1, r4, hCl, z1, hW1]))
          all_goals (try (exfalso; omega))
          all_goals refine Gw.step (sz := 4) (k6.push _) (by (repeat first | assumption | exact af.refl _ | apply af.push | refine af.set ?_ (by first | omega | (simp only [ac, ae, ab]; omega) | (have h9 := af.size_le (by assumption); (try simp only [ac, ae, ab] at *); omega)) _ | refine af.drop ?_ (by first | omega | (simp only [ac, ae, ab]; omega) | (have h9 := af.size_le (by assumption); (try simp only [ac, ae, ab] at *); omega)) | refine af.trans ?_ (by assumption))) rfl rfl (pi o) (cp (by constructor <;> (try dsimp only) <;> omega)) ?_
          all_goals intro v2 s2 hg _ _ hkp
          all_goals (try (simp -implicitDefEqProofs (maxSteps := 2000000) (disch := first | omega | (simp only [ac, ae, ab]; first | done | omega)) only [push_cast, seval, eP, eN, eQ, g0, g3, g4])) <;> (repeat' ((first | apply ao | apply aj | apply am | apply al | apply an | apply ak | apply ai | apply ag | apply ah) <;> intro hc <;> try (simp -implicitDefEqProofs (maxSteps := 2000000) (disch := first | omega | (simp only [ac, ae, ab]; first | done | omega)) only [push_cast, seval, eP, eN, eQ, hc, g0, g3, g4])))
          all_goals exact ⟨_ - (i + 1), by omega, i + 1, rfl, by omega, congrArg (fun z => AV.c (.int .i64 z)) (by omega), ⟨J0 ++ [x] ++ [o], v2, hst.symm, rfl, hg.cast (by simp) (by simp [eO]), fun h => by omega, fun _ => by simp, by simp; omega, by rw [htj]; omega⟩, hkp⟩
  · have hi2 : i = l.length := by omega
    subst hi2
    rw [List.take_length] at hJ
    repeat' (first | ((first | apply ao | apply aj | apply am | apply al | apply an | apply ak | apply ai | apply ag | apply ah) <;> intro hc <;> (try (simp -implicitDefEqProofs (maxSteps := 2000000) (disch := first | omega | (simp only [ac, ae, ab]; first | done | omega)) only [push_cast, seval, eP, eN, eQ, hc, g0, g3, g4])) <;> (try (exfalso; omega))) | (simp -implicitDefEqProofs (maxSteps := 2000000) (disch := first | omega | (simp only [ac, ae, ab]; first | done | omega)) only [push_cast, seval, eP, eN, eQ, g0, g3, g4]))
    all_goals (try (exfalso; omega))
    rw [← hJ]
    exact k1.outm j2 jq ez (by omega)
end
end Go.Proofs.YticllcglldbffaaDoor.Ab
