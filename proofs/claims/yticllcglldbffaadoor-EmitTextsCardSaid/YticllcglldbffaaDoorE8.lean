import Derived.Test.YticllcglldbffaaDoorE7
namespace Go.Proofs.YticllcglldbffaaDoor.Ab
open Go.Proofs
set_option maxRecDepth 100000
set_option maxHeartbeats 4000000
set_option linter.unusedSimpArgs false
set_option linter.unusedVariables false
set_option linter.unnecessarySimpa false
set_option linter.unusedSectionVars false
def eL (d : List Int) : Int := (d.map js).sum
def Og (s : List UInt8) : Int := if (a8 s).all okV = true then eL (a8 s) else -1
theorem jt (v : Int) : 0 ≤ js v ∧ js v ≤ 2 := by
  unfold js
  (repeat' split) <;> omega
theorem hU : ∀ d : List Int, 0 ≤ eL d ∧ eL d ≤ 2 * d.length
  | [] => by simp [eL]
  | v :: d => by
    have := hU d
    have h := jt v
    simp only [eL, List.map_cons, List.sum_cons, List.length_cons] at this ⊢
    omega
theorem oV (d : List Int) (v : Int) : eL (d ++ [v]) = eL d + js v := by simp [eL]
theorem iS {X : Prg} {t n : Nat} {ρ : au} {ps : Array (Nat × Operand)} {s : VS} : bsP X t n ρ ps s = gI X t n (hF (evA X ρ) ps) s := by
  unfold bsP
  rfl
section
variable {k : Nat → List Value → Option Value} (hk : ∀ f, f ≠ 105 → f ≠ 149 → ax k f)
include hk
theorem xj (s : List UInt8) (hs : s.length < 1000000) : PC (XK k) 57 [tx s] (.c (.int .i64 (Og s))) := by
  refine aI fun st => ?_
  refine at6 (hk _ (by decide) (by decide)) ?_
  have hdl := eC s
  repeat' (first | ((first | apply ao | apply aj | apply am | apply al | apply an | apply ak | apply ai | apply ag | apply ah) <;> intro hc <;> (try (simp -implicitDefEqProofs (maxSteps := 2000000) (disch := first | omega | (simp only [ac, ae, ab]; first | done | omega)) only [push_cast, seval, wL, xU, xH, hc])) <;> (try (exfalso; omega))) | refine ap (nb hk s (by omega)) ?_ | (simp -implicitDefEqProofs (maxSteps := 2000000) (disch := first | omega | (simp only [ac, ae, ab]; first | done | omega)) only [push_cast, seval, wL, xU, xH]))
  unfold Og
  generalize a8 s = d at *
  refine aM (fun m ρ s' => ∃ i : Nat, m = d.length - i ∧ i ≤ d.length ∧ ρ.get 3 = LI d ∧ ρ.get 5 = .c (.int .i64 i) ∧ (∃ w : Int, w = eL (d.take i) ∧ ρ.get 4 = .c (.int .i64 w)) ∧ ((d.take i).all okV = true) ∧ (s' = st)) (d.length) ⟨0, rfl, Nat.zero_le _, by (((try simp -implicitDefEqProofs only [aw, aq, au.get_set, ar, List.getD_cons_zero, List.getD_cons_succ, ↓reduceIte, reduceCtorEq, Nat.reduceEqDiff]); try (first | (with_reducible assumption) | (with_reducible rfl) | (congr 2 <;> omega) | rfl))), by (((try simp -implicitDefEqProofs only [aw, aq, au.get_set, ar, List.getD_cons_zero, List.getD_cons_succ, ↓reduceIte, reduceCtorEq, Nat.reduceEqDiff]); try (first | (with_reducible assumption) | (with_reducible rfl) | (congr 2 <;> omega) | rfl))), ⟨0, by simp [eL], by (((try simp -implicitDefEqProofs only [aw, aq, au.get_set, ar, List.getD_cons_zero, List.getD_cons_succ, ↓reduceIte, reduceCtorEq, Nat.reduceEqDiff]); try (first | (with_reducible assumption) | (with_reducible rfl) | (congr 2 <;> omega) | rfl)))⟩, (by simp), rfl⟩ ?_
  rintro m ρ s' ⟨i, rfl, hi, g3, g5, j1, j2, j3⟩
  subst j3
  obtain ⟨w, hww, g4⟩ := j1
  have hw := hU (d.take i)
  rw [List.length_take] at hw
  by_cases c1 : i < d.length
  · have he := List.getElem?_eq_getElem c1
    have hmem := List.getElem_mem c1
    generalize d[i] = v at he hmem
    have hwv := jt v
    have hok : okV v = (decide (1 ≤ aB v) && decide (aB v ≤ 3)) := rfl
    repeat' (first | ((first | apply ao | apply aj | apply am | apply al | apply an | apply ak | apply ai | apply ag | apply ah) <;> intro hc <;> (try (simp -implicitDefEqProofs (maxSteps := 2000000) (disch := first | omega | (simp only [ac, ae, ab]; first | done | omega)) only [push_cast, seval, wL, xU, xH, hc, g3, g4, g5, he, eI])) <;> (try (exfalso; omega))) | refine ap (Kw hk v) ?_ | refine ap (xf hk v) ?_ | (simp -implicitDefEqProofs (maxSteps := 2000000) (disch := first | omega | (simp only [ac, ae, ab]; first | done | omega)) only [push_cast, seval, wL, xU, xH, g3, g4, g5, he, eI]))
    all_goals (try (exfalso; omega))
    · have hno : okV v = false := by rw [hok]; simp; omega
      refine aD (by (repeat first | assumption | exact af.refl _ | apply af.push | refine af.set ?_ (by first | omega | (simp only [ac, ae, ab]; omega) | (have h9 := af.size_le (by assumption); (try simp only [ac, ae, ab] at *); omega)) _ | refine af.drop ?_ (by first | omega | (simp only [ac, ae, ab]; omega) | (have h9 := af.size_le (by assumption); (try simp only [ac, ae, ab] at *); omega)) | refine af.trans ?_ (by assumption))) ?_
      rw [if_neg]
      rw [List.all_eq_true]
      intro h
      rw [h v hmem] at hno
      cases hno
    · have hyes : okV v = true := by rw [hok]; simp; omega
      refine ⟨_ - (i + 1), by omega, i + 1, rfl, by omega, congrArg (fun z => AV.c (.int .i64 z)) (by omega), ⟨_, ?_, rfl⟩, ?_⟩
      · rw [aV he, oV, hww]
      · rw [aV he, List.all_append, j2]
        simp [hyes]
    · have hno : okV v = false := by rw [hok]; simp; omega
      refine aD (by (repeat first | assumption | exact af.refl _ | apply af.push | refine af.set ?_ (by first | omega | (simp only [ac, ae, ab]; omega) | (have h9 := af.size_le (by assumption); (try simp only [ac, ae, ab] at *); omega)) _ | refine af.drop ?_ (by first | omega | (simp only [ac, ae, ab]; omega) | (have h9 := af.size_le (by assumption); (try simp only [ac, ae, ab] at *); omega)) | refine af.trans ?_ (by assumption))) ?_
      rw [if_neg]
      rw [List.all_eq_true]
      intro h
      rw [h v hmem] at hno
      cases hno
  · have hi2 : i = d.length := by omega
    subst hi2
    rw [List.take_length] at j2 hww
    repeat' (first | ((first | apply ao | apply aj | apply am | apply al | apply an | apply ak | apply ai | apply ag | apply ah) <;> intro hc <;> (try (simp -implicitDefEqProofs (maxSteps := 2000000) (disch := first | omega | (simp only [ac, ae, ab]; first | done | omega)) only [push_cast, seval, wL, xU, xH, hc, g3, g4, g5])) <;> (try (exfalso; omega))) | (simp -implicitDefEqProofs (maxSteps := 2000000) (disch := first | omega | (simp only [ac, ae, ab]; first | done | omega)) only [push_cast, seval, wL, xU, xH, g3, g4, g5]))
    all_goals (try (exfalso; omega))
    exact aD (by (repeat first | assumption | exact af.refl _ | apply af.push | refine af.set ?_ (by first | omega | (simp only [ac, ae, ab]; omega) | (have h9 := af.size_le (by assumption); (try simp only [ac, ae, ab] at *); omega)) _ | refine af.drop ?_ (by first | omega | (simp only [ac, ae, ab]; omega) | (have h9 := af.size_le (by assumption); (try simp only [ac, ae, ab] at *); omega)) | refine af.trans ?_ (by assumption))) (by rw [if_pos j2, hww])
theorem HH (o : Ot) (hl : o.2.2.2.length < 1000000) : PC (XK k) 27 [.agg (eO o)] (.c (.bool (aW o))) := by
  refine aI fun st => ?_
  refine asJ (hk _ (by decide) (by decide)) ?_
  obtain ⟨kd, n, m, t⟩ := o
  have hco : (0 ≤ Og t) = ((a8 t).all okV = true) := by
    unfold Og
    have := (hU (a8 t)).1
    split <;> simp_all
  by_cases k0 : kd = 0
  · subst k0
    by_cases ht : t = []
    · subst ht
      repeat' (first | ((first | apply ao | apply aj | apply am | apply al | apply an | apply ak | apply ai | apply ag | apply ah) <;> intro hc <;> (try (simp -implicitDefEqProofs (maxSteps := 2000000) (disch := first | omega | (simp only [ac, ae, ab]; first | done | omega)) only [push_cast, seval, qF, qp, qa, qK, qs, qh, hc, eO, BEq.rfl])) <;> (try (exfalso; omega))) | refine ap (xj hk [] (by decide)) ?_ | (simp -implicitDefEqProofs (maxSteps := 2000000) (disch := first | omega | (simp only [ac, ae, ab]; first | done | omega)) only [push_cast, seval, qF, qp, qa, qK, qs, qh, eO, BEq.rfl]))
      all_goals exact aK (by (repeat first | assumption | exact af.refl _ | apply af.push | refine af.set ?_ (by first | omega | (simp only [ac, ae, ab]; omega) | (have h9 := af.size_le (by assumption); (try simp only [ac, ae, ab] at *); omega)) _ | refine af.drop ?_ (by first | omega | (simp only [ac, ae, ab]; omega) | (have h9 := af.size_le (by assumption); (try simp only [ac, ae, ab] at *); omega)) | refine af.trans ?_ (by assumption))) (by simp [aW])
    · have ht2 : (t == []) = false := by simpa using ht
      repeat' (first | ((first | apply ao | apply aj | apply am | apply al | apply an | apply ak | apply ai | apply ag | apply ah) <;> intro hc <;> (try (simp -implicitDefEqProofs (maxSteps := 2000000) (disch := first | omega | (simp only [ac, ae, ab]; first | done | omega)) only [push_cast, seval, qF, qp, qa, qK, qs, qh, hc, eO, ht2])) <;> (try (exfalso; omega))) | refine ap (xj hk t hl) ?_ | (simp -implicitDefEqProofs (maxSteps := 2000000) (disch := first | omega | (simp only [ac, ae, ab]; first | done | omega)) only [push_cast, seval, qF, qp, qa, qK, qs, qh, eO, ht2]))
      all_goals refine aK (by (repeat first | assumption | exact af.refl _ | apply af.push | refine af.set ?_ (by first | omega | (simp only [ac, ae, ab]; omega) | (have h9 := af.size_le (by assumption); (try simp only [ac, ae, ab] at *); omega)) _ | refine af.drop ?_ (by first | omega | (simp only [ac, ae, ab]; omega) | (have h9 := af.size_le (by assumption); (try simp only [ac, ae, ab] at *); omega)) | refine af.trans ?_ (by assumption))) ?_
      · simp only [hco]
        unfold aW
        simp only [if_true, decide_true, Bool.true_and, ht, ne_eq, not_false_eq_true]
        cases (a8 t).all okV <;> rfl
      · unfold aW
        simp [hc]
      · unfold aW
        simp [hc]
  · by_cases ht : t = []
    · subst ht
      repeat' (first | ((first | apply ao | apply aj | apply am | apply al | apply an | apply ak | apply ai | apply ag | apply ah) <;> intro hc <;> (try (simp -implicitDefEqProofs (maxSteps := 2000000) (disch := first | omega | (simp only [ac, ae, ab]; first | done | omega)) only [push_cast, seval, qF, qp, qa, qK, qs, qh, hc, eO, k0, BEq.rfl])) <;> (try (exfalso; omega))) | (simp -implicitDefEqProofs (maxSteps := 2000000) (disch := first | omega | (simp only [ac, ae, ab]; first | done | omega)) only [push_cast, seval, qF, qp, qa, qK, qs, qh, eO, k0, BEq.rfl]))
      all_goals refine aK (by (repeat first | assumption | exact af.refl _ | apply af.push | refine af.set ?_ (by first | omega | (simp only [ac, ae, ab]; omega) | (have h9 := af.size_le (by assumption); (try simp only [ac, ae, ab] at *); omega)) _ | refine af.drop ?_ (by first | omega | (simp only [ac, ae, ab]; omega) | (have h9 := af.size_le (by assumption); (try simp only [ac, ae, ab] at *); omega)) | refine af.trans ?_ (by assumption))) ?_
      all_goals rw [Bool.eq_iff_iff, jx (by omega)]
      all_goals simp only [true_and, Bool.and_eq_true, Bool.or_eq_true, decide_eq_true_eq, Bool.false_eq_true, reduceCtorEq, false_iff]
      all_goals first | omega | simp
    · have ht2 : (t == []) = false := by simpa using ht
      repeat' (first | ((first | apply ao | apply aj | apply am | apply al | apply an | apply ak | apply ai | apply ag | apply ah) <;> intro hc <;> (try (simp -implicitDefEqProofs (maxSteps := 2000000) (disch := first | omega | (simp only [ac, ae, ab]; first | done | omega)) only [push_cast, seval, qF, qp, qa, qK, qs, qh, hc, eO, k0, ht2])) <;> (try (exfalso; omega))) | (simp -implicitDefEqProofs (maxSteps := 2000000) (disch := first | omega | (simp only [ac, ae, ab]; first | done | omega)) only [push_cast, seval, qF, qp, qa, qK, qs, qh, eO, k0, ht2]))
      all_goals refine aK (by (repeat first | assumption | exact af.refl _ | apply af.push | refine af.set ?_ (by first | omega | (simp only [ac, ae, ab]; omega) | (have h9 := af.size_le (by assumption); (try simp only [ac, ae, ab] at *); omega)) _ | refine af.drop ?_ (by first | omega | (simp only [ac, ae, ab]; omega) | (have h9 := af.size_le (by assumption); (try simp only [ac, ae, ab] at *); omega)) | refine af.trans ?_ (by assumption))) ?_
      all_goals rw [Bool.eq_iff_iff, jx (by omega)]
      all_goals simp [ht]
theorem Kj (n : Int) (h0 : 0 ≤ n) (h1 : n ≤ 7) : PC (XK k) 92 [.c (.int .i64 n)] (tx (aZ n)) := by
  refine aI fun st => ?_
  refine auR (hk _ (by decide) (by decide)) ?_
  have : n = 0 ∨ n = 1 ∨ n = 2 ∨ n = 3 ∨ n = 4 ∨ n = 5 ∨ n = 6 ∨ n = 7 := by omega
  rcases this with rfl | rfl | rfl | rfl | rfl | rfl | rfl | rfl
  all_goals repeat' (first | ((first | apply ao | apply aj | apply am | apply al | apply an | apply ak | apply ai | apply ag | apply ah) <;> intro hc <;> (try (simp -implicitDefEqProofs (maxSteps := 2000000) (disch := first | omega | (simp only [ac, ae, ab]; first | done | omega)) only [push_cast, seval, an1, hc, iS])) <;> (try (exfalso; omega))) | (simp -implicitDefEqProofs (maxSteps := 2000000) (disch := first | omega | (simp only [ac, ae, ab]; first | done | omega)) only [push_cast, seval, an1, iS]))
  all_goals exact ba (by (repeat first | assumption | exact af.refl _ | apply af.push | refine af.set ?_ (by first | omega | (simp only [ac, ae, ab]; omega) | (have h9 := af.size_le (by assumption); (try simp only [ac, ae, ab] at *); omega)) _ | refine af.drop ?_ (by first | omega | (simp only [ac, ae, ab]; omega) | (have h9 := af.size_le (by assumption); (try simp only [ac, ae, ab] at *); omega)) | refine af.trans ?_ (by assumption))) (by decide)
theorem JM (o : Ot) (ho : aW o = true) (hl : o.2.2.2.length < 1000000) : PC (XK k) 59 [.agg (eO o)] (tx (aL o)) := by
  refine aI fun st => ?_
  refine at4 (hk _ (by decide) (by decide)) ?_
  obtain ⟨kd, n, m, t⟩ := o
  by_cases k0 : kd = 0
  · subst k0
    repeat' (first | ((first | apply ao | apply aj | apply am | apply al | apply an | apply ak | apply ai | apply ag | apply ah) <;> intro hc <;> (try (simp -implicitDefEqProofs (maxSteps := 2000000) (disch := first | omega | (simp only [ac, ae, ab]; first | done | omega)) only [push_cast, seval, mh, mL, mi, m7, hc, eO])) <;> (try (exfalso; omega))) | (simp -implicitDefEqProofs (maxSteps := 2000000) (disch := first | omega | (simp only [ac, ae, ab]; first | done | omega)) only [push_cast, seval, mh, mL, mi, m7, eO]))
    exact ba (by (repeat first | assumption | exact af.refl _ | apply af.push | refine af.set ?_ (by first | omega | (simp only [ac, ae, ab]; omega) | (have h9 := af.size_le (by assumption); (try simp only [ac, ae, ab] at *); omega)) _ | refine af.drop ?_ (by first | omega | (simp only [ac, ae, ab]; omega) | (have h9 := af.size_le (by assumption); (try simp only [ac, ae, ab] at *); omega)) | refine af.trans ?_ (by assumption))) rfl
  · rw [jx k0] at ho
    obtain ⟨rfl, h⟩ := ho
    unfold aL kJ
    by_cases k1 : kd = 1
    · subst k1
      have l1 := (dy (n := n) (by omega) (by omega)).2.1
      have l2 := (dy (n := m) (by omega) (by omega)).2.1
      have e1 : (2 + (aX n).length ≤ 140737488355328) = True := eq_true (by omega)
      have e2 : ((aX n ++ [59]).length + 1 + 1 + (aX m).length ≤ 140737488355328) = True := eq_true (by simp; omega)
      have e3 : ((aX n ++ [59] ++ aX m).length + 1 + 1 + 1 ≤ 140737488355328) = True := eq_true (by simp; omega)
      repeat' (first | ((first | apply ao | apply aj | apply am | apply al | apply an | apply ak | apply ai | apply ag | apply ah) <;> intro hc <;> (try (simp -implicitDefEqProofs (maxSteps := 2000000) (disch := first | omega | (simp only [ac, ae, ab]; first | done | omega)) only [push_cast, seval, mh, mL, mi, m7, hc, eO, e1, e2, e3])) <;> (try (exfalso; omega))) | refine ap (Pk hk n.natAbs n (Nat.le_refl _) (by omega) (by omega)) ?_ | refine ap (Pk hk m.natAbs m (Nat.le_refl _) (by omega) (by omega)) ?_ | (simp -implicitDefEqProofs (maxSteps := 2000000) (disch := first | omega | (simp only [ac, ae, ab]; first | done | omega)) only [push_cast, seval, mh, mL, mi, m7, eO, e1, e2, e3]))
      exact ba (by (repeat first | assumption | exact af.refl _ | apply af.push | refine af.set ?_ (by first | omega | (simp only [ac, ae, ab]; omega) | (have h9 := af.size_le (by assumption); (try simp only [ac, ae, ab] at *); omega)) _ | refine af.drop ?_ (by first | omega | (simp only [ac, ae, ab]; omega) | (have h9 := af.size_le (by assumption); (try simp only [ac, ae, ab] at *); omega)) | refine af.trans ?_ (by assumption))) rfl
    · by_cases k4 : kd = 4
      · subst k4
        have l1 : (aZ n).length ≤ 10 := by
          unfold aZ
          (repeat' split) <;> simp
        have e1 : (2 + (aZ n).length ≤ 140737488355328) = True := eq_true (by omega)
        repeat' (first | ((first | apply ao | apply aj | apply am | apply al | apply an | apply ak | apply ai | apply ag | apply ah) <;> intro hc <;> (try (simp -implicitDefEqProofs (maxSteps := 2000000) (disch := first | omega | (simp only [ac, ae, ab]; first | done | omega)) only [push_cast, seval, mh, mL, mi, m7, hc, eO, e1])) <;> (try (exfalso; omega))) | refine ap (Kj hk n (by omega) (by omega)) ?_ | (simp -implicitDefEqProofs (maxSteps := 2000000) (disch := first | omega | (simp only [ac, ae, ab]; first | done | omega)) only [push_cast, seval, mh, mL, mi, m7, eO, e1]))
        exact ba (by (repeat first | assumption | exact af.refl _ | apply af.push | refine af.set ?_ (by first | omega | (simp only [ac, ae, ab]; omega) | (have h9 := af.size_le (by assumption); (try simp only [ac, ae, ab] at *); omega)) _ | refine af.drop ?_ (by first | omega | (simp only [ac, ae, ab]; omega) | (have h9 := af.size_le (by assumption); (try simp only [ac, ae, ab] at *); omega)) | refine af.trans ?_ (by assumption))) rfl
      · by_cases k5 : kd = 5
        · subst k5
          repeat' (first | ((first | apply ao | apply aj | apply am | apply al | apply an | apply ak | apply ai | apply ag | apply ah) <;> intro hc <;> (try (simp -implicitDefEqProofs (maxSteps := 2000000) (disch := first | omega | (simp only [ac, ae, ab]; first | done | omega)) only [push_cast, seval, mh, mL, mi, m7, hc, eO, iS])) <;> (try (exfalso; omega))) | (simp -implicitDefEqProofs (maxSteps := 2000000) (disch := first | omega | (simp only [ac, ae, ab]; first | done | omega)) only [push_cast, seval, mh, mL, mi, m7, eO, iS]))
          · exact ba (by (repeat first | assumption | exact af.refl _ | apply af.push | refine af.set ?_ (by first | omega | (simp only [ac, ae, ab]; omega) | (have h9 := af.size_le (by assumption); (try simp only [ac, ae, ab] at *); omega)) _ | refine af.drop ?_ (by first | omega | (simp only [ac, ae, ab]; omega) | (have h9 := af.size_le (by assumption); (try simp only [ac, ae, ab] at *); omega)) | refine af.trans ?_ (by assumption))) rfl
          · refine ba (by (repeat first | assumption | exact af.refl _ | apply af.push | refine af.set ?_ (by first | omega | (simp only [ac, ae, ab]; omega) | (have h9 := af.size_le (by assumption); (try simp only [ac, ae, ab] at *); omega)) _ | refine af.drop ?_ (by first | omega | (simp only [ac, ae, ab]; omega) | (have h9 := af.size_le (by assumption); (try simp only [ac, ae, ab] at *); omega)) | refine af.trans ?_ (by assumption))) ?_
            simp [hc]
        · have : kd = 2 ∨ kd = 3 ∨ kd = 6 ∨ kd = 7 ∨ kd = 8 := by omega
          rcases this with rfl | rfl | rfl | rfl | rfl
          all_goals repeat' (first | ((first | apply ao | apply aj | apply am | apply al | apply an | apply ak | apply ai | apply ag | apply ah) <;> intro hc <;> (try (simp -implicitDefEqProofs (maxSteps := 2000000) (disch := first | omega | (simp only [ac, ae, ab]; first | done | omega)) only [push_cast, seval, mh, mL, mi, m7, hc, eO, iS])) <;> (try (exfalso; omega))) | (simp -implicitDefEqProofs (maxSteps := 2000000) (disch := first | omega | (simp only [ac, ae, ab]; first | done | omega)) only [push_cast, seval, mh, mL, mi, m7, eO, iS]))
          all_goals exact ba (by (repeat first | assumption | exact af.refl _ | apply af.push | refine af.set ?_ (by first | omega | (simp only [ac, ae, ab]; omega) | (have h9 := af.size_le (by assumption); (try simp only [ac, ae, ab] at *); omega)) _ | refine af.drop ?_ (by first | omega | (simp only [ac, ae, ab]; omega) | (have h9 := af.size_le (by assumption); (try simp only [ac, ae, ab] at *); omega)) | refine af.trans ?_ (by assumption))) rfl
end
end Go.Proofs.YticllcglldbffaaDoor.Ab
