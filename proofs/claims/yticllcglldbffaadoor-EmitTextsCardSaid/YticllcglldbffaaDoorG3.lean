import Derived.Test.YticllcglldbffaaDoorG2
import Derived.Test.YticllcglldbffaaDoorL1
import Derived.Test.YticllcglldbffaaDoorDS
import Derived.Test.YticllcglldbffaaDoorG6
namespace Go.Proofs.YticllcglldbffaaDoor.Ab
open Go.Proofs
set_option maxRecDepth 100000
set_option maxHeartbeats 4000000
set_option linter.unusedSimpArgs false
set_option linter.unusedVariables false
set_option linter.unnecessarySimpa false
set_option linter.unusedSectionVars false
theorem ad3 : ∀ (m : List UInt8) (v : Int), m.length ≤ 3 → -1000 ≤ v → v ≤ 1000 → -300000000 ≤ m.foldl iY v ∧ m.foldl iY v ≤ 300000000 := by
  intro m v hm h1 h2
  rcases m with _ | ⟨a, _ | ⟨b, _ | ⟨c, _ | ⟨d, m⟩⟩⟩⟩
  · simp; omega
  · have := a.toNat_lt
    simp [iY]; omega
  · have := a.toNat_lt
    have := b.toNat_lt
    simp [iY]; omega
  · have := a.toNat_lt
    have := b.toNat_lt
    have := c.toNat_lt
    simp [iY]; omega
  · simp at hm
theorem ae6 (a : UInt8) : szB a ≤ 4 := by unfold szB; (repeat' split) <;> omega
section
variable {k : Nat → List Value → Option Value} (hk : ∀ f, f ≠ 105 → f ≠ 149 → ax k f)
include hk
theorem eh (a : UInt8) : PC (XK k) 96 [.c (.int .u8 a.toNat)] (.c (.int .i64 (szB a))) := by
  refine aI fun s => ?_
  refine as2 (hk _ (by decide) (by decide)) ?_
  have ha := a.toNat_lt
  (try (simp -implicitDefEqProofs (maxSteps := 2000000) (disch := first | omega | (simp only [ac, ae, ab]; first | done | omega)) only [push_cast, seval, anO, anW, apL, apP])) <;> (repeat' ((first | apply ao | apply aj | apply am | apply al | apply an | apply ak | apply ai | apply ag | apply ah) <;> intro hc <;> try (simp -implicitDefEqProofs (maxSteps := 2000000) (disch := first | omega | (simp only [ac, ae, ab]; first | done | omega)) only [push_cast, seval, anO, anW, apL, apP, hc])))
  all_goals
    refine aD (by (repeat first | assumption | exact af.refl _ | apply af.push | refine af.set ?_ (by first | omega | (simp only [ac, ae, ab]; omega) | (have h9 := af.size_le (by assumption); (try simp only [ac, ae, ab] at *); omega)) _ | refine af.drop ?_ (by first | omega | (simp only [ac, ae, ab]; omega) | (have h9 := af.size_le (by assumption); (try simp only [ac, ae, ab] at *); omega)) | refine af.trans ?_ (by assumption))) ?_
    unfold szB
    (repeat' split) <;> omega
theorem Nk (a c : UInt8) (i : Nat) (hi : i < 1000000) : PC (XK k) 119 [.c (.int .u8 a.toNat), .c (.int .u8 c.toNat), .c (.int .i64 i)] (.c (.bool (dA a c i))) := by
  refine aI fun s => ?_
  refine alU (hk _ (by decide) (by decide)) ?_
  have ha := a.toNat_lt
  have hc := c.toNat_lt
  (try (simp -implicitDefEqProofs (maxSteps := 2000000) (disch := first | omega | (simp only [ac, ae, ab]; first | done | omega)) only [push_cast, seval, acV, acJ])) <;> (repeat' ((first | apply ao | apply aj | apply am | apply al | apply an | apply ak | apply ai | apply ag | apply ah) <;> intro hc <;> try (simp -implicitDefEqProofs (maxSteps := 2000000) (disch := first | omega | (simp only [ac, ae, ab]; first | done | omega)) only [push_cast, seval, acV, acJ, hc])))
  all_goals
    refine aK (by (repeat first | assumption | exact af.refl _ | apply af.push | refine af.set ?_ (by first | omega | (simp only [ac, ae, ab]; omega) | (have h9 := af.size_le (by assumption); (try simp only [ac, ae, ab] at *); omega)) _ | refine af.drop ?_ (by first | omega | (simp only [ac, ae, ab]; omega) | (have h9 := af.size_le (by assumption); (try simp only [ac, ae, ab] at *); omega)) | refine af.trans ?_ (by assumption))) ?_
    rw [Bool.eq_iff_iff, bt]
    simp
    omega
theorem gS (a : UInt8) (l : List UInt8) (hl : l.length < 1000000) : PC (XK k) 95 [tx (a :: l)] (.c (.int .i64 (ic a 1 l))) := by
  refine aI fun s => ?_
  refine auQ (hk _ (by decide) (by decide)) ?_
  have hsz := ae6 a
  (try (simp -implicitDefEqProofs (maxSteps := 2000000) (disch := first | omega | (simp only [ac, ae, ab]; first | done | omega)) only [push_cast, seval, mj, mV])) <;> (repeat' ((first | apply ao | apply aj | apply am | apply al | apply an | apply ak | apply ai | apply ag | apply ah) <;> intro hc <;> try (simp -implicitDefEqProofs (maxSteps := 2000000) (disch := first | omega | (simp only [ac, ae, ab]; first | done | omega)) only [push_cast, seval, mj, mV, hc])))
  refine aM (fun m ρ s' => ∃ i : Nat, m = l.length - i ∧ i ≤ l.length ∧ ρ.get 0 = tx (a :: l) ∧ ρ.get 3 = .c (.int .i64 ((i : Int) + 1)) ∧ (ic a 1 l = ic a (i + 1) (l.drop i)) ∧ (s' = s)) (l.length) ⟨0, rfl, Nat.zero_le _, by (((try simp -implicitDefEqProofs only [aw, aq, au.get_set, ar, List.getD_cons_zero, List.getD_cons_succ, ↓reduceIte, reduceCtorEq, Nat.reduceEqDiff]); try (first | (with_reducible assumption) | (with_reducible rfl) | (congr 2 <;> omega) | rfl))), by (((try simp -implicitDefEqProofs only [aw, aq, au.get_set, ar, List.getD_cons_zero, List.getD_cons_succ, ↓reduceIte, reduceCtorEq, Nat.reduceEqDiff]); try (first | (with_reducible assumption) | (with_reducible rfl) | (congr 2 <;> omega) | rfl))), (by rw [List.drop_zero]), rfl⟩ ?_
  rintro m ρ s' ⟨i, rfl, hi, g0, g3, j1, j2⟩
  subst j2
  by_cases h1 : i + 1 < szB a
  · by_cases h2 : i < l.length
    · obtain ⟨x, hx⟩ : ∃ x, l[i]? = some x := ⟨_, List.getElem?_eq_getElem (by omega)⟩
      have hd : l.drop i = x :: l.drop (i + 1) := by
        rw [List.drop_eq_getElem_cons h2, (List.getElem?_eq_some_iff.1 hx).2]
      have hx1 : (a :: l)[i + 1]? = some x := by simpa using hx
      rw [hd, ic] at j1
      cases hm : dA a x (i + 1)
      · rw [if_neg (by simp [hm])] at j1
        repeat' (first | ((first | apply ao | apply aj | apply am | apply al | apply an | apply ak | apply ai | apply ag | apply ah) <;> intro hc <;> (try (simp -implicitDefEqProofs (maxSteps := 2000000) (disch := first | omega | (simp only [ac, ae, ab]; first | done | omega)) only [push_cast, seval, mj, mV, hc, g0, g3, hx1, hm])) <;> (try (exfalso; omega))) | refine ap (eh hk a) ?_ | refine ap (Nk hk a x (i + 1) (by omega)) ?_ | (simp -implicitDefEqProofs (maxSteps := 2000000) (disch := first | omega | (simp only [ac, ae, ab]; first | done | omega)) only [push_cast, seval, mj, mV, g0, g3, hx1, hm]))
        exact aD (by (repeat first | assumption | exact af.refl _ | apply af.push | refine af.set ?_ (by first | omega | (simp only [ac, ae, ab]; omega) | (have h9 := af.size_le (by assumption); (try simp only [ac, ae, ab] at *); omega)) _ | refine af.drop ?_ (by first | omega | (simp only [ac, ae, ab]; omega) | (have h9 := af.size_le (by assumption); (try simp only [ac, ae, ab] at *); omega)) | refine af.trans ?_ (by assumption))) (by rw [j1]; simp)
      · rw [if_pos ⟨h1, hm⟩] at j1
        repeat' (first | ((first | apply ao | apply aj | apply am | apply al | apply an | apply ak | apply ai | apply ag | apply ah) <;> intro hc <;> (try (simp -implicitDefEqProofs (maxSteps := 2000000) (disch := first | omega | (simp only [ac, ae, ab]; first | done | omega)) only [push_cast, seval, mj, mV, hc, g0, g3, hx1, hm])) <;> (try (exfalso; omega))) | refine ap (eh hk a) ?_ | refine ap (Nk hk a x (i + 1) (by omega)) ?_ | (simp -implicitDefEqProofs (maxSteps := 2000000) (disch := first | omega | (simp only [ac, ae, ab]; first | done | omega)) only [push_cast, seval, mj, mV, g0, g3, hx1, hm]))
        refine ⟨_ - (i + 1), by omega, i + 1, rfl, by omega, ?_⟩ <;> (try simp only [Int.natCast_add, Int.natCast_one, nP, and_true, true_and, eq_self])
        exact j1
    · rw [List.drop_eq_nil_of_le (by omega), ic] at j1
      repeat' (first | ((first | apply ao | apply aj | apply am | apply al | apply an | apply ak | apply ai | apply ag | apply ah) <;> intro hc <;> (try (simp -implicitDefEqProofs (maxSteps := 2000000) (disch := first | omega | (simp only [ac, ae, ab]; first | done | omega)) only [push_cast, seval, mj, mV, hc, g0, g3])) <;> (try (exfalso; omega))) | refine ap (eh hk a) ?_ | (simp -implicitDefEqProofs (maxSteps := 2000000) (disch := first | omega | (simp only [ac, ae, ab]; first | done | omega)) only [push_cast, seval, mj, mV, g0, g3]))
      exact aD (by (repeat first | assumption | exact af.refl _ | apply af.push | refine af.set ?_ (by first | omega | (simp only [ac, ae, ab]; omega) | (have h9 := af.size_le (by assumption); (try simp only [ac, ae, ab] at *); omega)) _ | refine af.drop ?_ (by first | omega | (simp only [ac, ae, ab]; omega) | (have h9 := af.size_le (by assumption); (try simp only [ac, ae, ab] at *); omega)) | refine af.trans ?_ (by assumption))) (by rw [j1]; simp)
  · have hn : ic a (i + 1) (l.drop i) = i + 1 := by
      cases l.drop i with
      | nil => rfl
      | cons x l => rw [ic, if_neg (fun h => h1 h.1)]
    rw [hn] at j1
    repeat' (first | ((first | apply ao | apply aj | apply am | apply al | apply an | apply ak | apply ai | apply ag | apply ah) <;> intro hc <;> (try (simp -implicitDefEqProofs (maxSteps := 2000000) (disch := first | omega | (simp only [ac, ae, ab]; first | done | omega)) only [push_cast, seval, mj, mV, hc, g0, g3])) <;> (try (exfalso; omega))) | refine ap (eh hk a) ?_ | (simp -implicitDefEqProofs (maxSteps := 2000000) (disch := first | omega | (simp only [ac, ae, ab]; first | done | omega)) only [push_cast, seval, mj, mV, g0, g3]))
    exact aD (by (repeat first | assumption | exact af.refl _ | apply af.push | refine af.set ?_ (by first | omega | (simp only [ac, ae, ab]; omega) | (have h9 := af.size_le (by assumption); (try simp only [ac, ae, ab] at *); omega)) _ | refine af.drop ?_ (by first | omega | (simp only [ac, ae, ab]; omega) | (have h9 := af.size_le (by assumption); (try simp only [ac, ae, ab] at *); omega)) | refine af.trans ?_ (by assumption))) (by rw [j1]; simp)
theorem lZ (a : UInt8) (l : List UInt8) (N : Nat) (v0 : Int) (hN : N ≤ 3) (hl : N ≤ l.length) (hl2 : l.length < 1000000) (hv : -1000 ≤ v0 ∧ v0 ≤ 1000) {ρ : au} {s : VS} (g0 : ρ.get 0 = tx (a :: l)) (g4 : ρ.get 4 = .c (.int .i64 ((N : Int) + 1))) (g5 : ρ.get 5 = .c (.int .i64 v0)) (g6 : ρ.get 6 = .c (.int .i64 1))
    {Q : Xit → au → VS → Prop} (hQ : ∀ ρ, ρ.get 4 = .c (.int .i64 ((N : Int) + 1)) → ρ.get 5 = .c (.int .i64 ((l.take N).foldl iY v0)) → Q (.exit 0) ρ s) : VW (XK k) (.loop uP) ρ s Q := by
  refine aM (fun m ρ s' => ∃ i : Nat, m = N - i ∧ i ≤ N ∧ ρ.get 0 = tx (a :: l) ∧ ρ.get 4 = .c (.int .i64 ((N : Int) + 1)) ∧ ρ.get 5 = .c (.int .i64 ((l.take i).foldl iY v0)) ∧ ρ.get 6 = .c (.int .i64 ((i : Int) + 1)) ∧ (s' = s)) (N) ⟨0, rfl, Nat.zero_le _, by (((try simp -implicitDefEqProofs only [aw, aq, au.get_set, ar, List.getD_cons_zero, List.getD_cons_succ, ↓reduceIte, reduceCtorEq, Nat.reduceEqDiff]); try (first | (with_reducible assumption) | (with_reducible rfl) | (congr 2 <;> omega) | rfl))), by (((try simp -implicitDefEqProofs only [aw, aq, au.get_set, ar, List.getD_cons_zero, List.getD_cons_succ, ↓reduceIte, reduceCtorEq, Nat.reduceEqDiff]); try (first | (with_reducible assumption) | (with_reducible rfl) | (congr 2 <;> omega) | rfl))), by (((try simp -implicitDefEqProofs only [aw, aq, au.get_set, ar, List.getD_cons_zero, List.getD_cons_succ, ↓reduceIte, reduceCtorEq, Nat.reduceEqDiff]); try (first | (with_reducible assumption) | (with_reducible rfl) | (congr 2 <;> omega) | rfl))), by (((try simp -implicitDefEqProofs only [aw, aq, au.get_set, ar, List.getD_cons_zero, List.getD_cons_succ, ↓reduceIte, reduceCtorEq, Nat.reduceEqDiff]); try (first | (with_reducible assumption) | (with_reducible rfl) | (congr 2 <;> omega) | rfl))), rfl⟩ ?_
  rintro m ρ s' ⟨i, rfl, hi, g0, g4, g5, g6, j1⟩
  subst j1
  have hr := ad3 (l.take i) v0 (by rw [List.length_take]; omega) hv.1 hv.2
  by_cases hc : i < N
  · obtain ⟨x, hx⟩ : ∃ x, l[i]? = some x := ⟨_, List.getElem?_eq_getElem (by omega)⟩
    have hx1 : (a :: l)[i + 1]? = some x := by simpa using hx
    have hxl := x.toNat_lt
    have hst : (l.take (i + 1)).foldl iY v0 = iY ((l.take i).foldl iY v0) x := by rw [aV hx]; simp
    repeat' (first | ((first | apply ao | apply aj | apply am | apply al | apply an | apply ak | apply ai | apply ag | apply ah) <;> intro hc <;> (try (simp -implicitDefEqProofs (maxSteps := 2000000) (disch := first | omega | (simp only [ac, ae, ab]; first | done | omega)) only [push_cast, seval, dO, dR, dQ, dP, dM, hc, g0, g4, g5, g6, hx1])) <;> (try (exfalso; omega))) | (simp -implicitDefEqProofs (maxSteps := 2000000) (disch := first | omega | (simp only [ac, ae, ab]; first | done | omega)) only [push_cast, seval, dO, dR, dQ, dP, dM, g0, g4, g5, g6, hx1]))
    refine ⟨_ - (i + 1), by omega, i + 1, rfl, by omega, ?_⟩ <;> (try simp only [Int.natCast_add, Int.natCast_one, nP, and_true, true_and, eq_self])
    rw [hst]
    rfl
  · obtain rfl : i = N := by omega
    repeat' (first | ((first | apply ao | apply aj | apply am | apply al | apply an | apply ak | apply ai | apply ag | apply ah) <;> intro hc <;> (try (simp -implicitDefEqProofs (maxSteps := 2000000) (disch := first | omega | (simp only [ac, ae, ab]; first | done | omega)) only [push_cast, seval, dO, dR, dQ, dP, dM, hc, g0, g4, g5, g6])) <;> (try (exfalso; omega))) | (simp -implicitDefEqProofs (maxSteps := 2000000) (disch := first | omega | (simp only [ac, ae, ab]; first | done | omega)) only [push_cast, seval, dO, dR, dQ, dP, dM, g0, g4, g5, g6]))
    exact hQ _ (by (((try simp -implicitDefEqProofs only [aw, aq, au.get_set, ar, List.getD_cons_zero, List.getD_cons_succ, ↓reduceIte, reduceCtorEq, Nat.reduceEqDiff]); try (first | (with_reducible assumption) | (with_reducible rfl) | (congr 2 <;> omega) | rfl)))) (by (((try simp -implicitDefEqProofs only [aw, aq, au.get_set, ar, List.getD_cons_zero, List.getD_cons_succ, ↓reduceIte, reduceCtorEq, Nat.reduceEqDiff]); try (first | (with_reducible assumption) | (with_reducible rfl) | (congr 2 <;> omega) | rfl))))
theorem akB (a : UInt8) (l : List UInt8) (hl : l.length < 1000000) : PC (XK k) 62 [tx (a :: l)] (.tup [.c (.int .i64 (aU (a :: l)).1), .c (.int .i64 (aU (a :: l)).2)]) := by
  refine aI fun s => ?_
  refine avG (hk _ (by decide) (by decide)) ?_
  have hsz := ae6 a
  have ha := a.toNat_lt
  have hcl := nX a l 1
  have hcg := Ga a l 1
  by_cases hc : ic a 1 l = szB a
  · have ho : aU (a :: l) = ((l.take (szB a - 1)).foldl iY ((a.toNat : Int) - ko (szB a)), szB a) := by rw [dL, if_pos hc]
    rw [ho]
    have hln : szB a - 1 ≤ l.length := by omega
    obtain ⟨n, hn⟩ : ∃ n, szB a = n := ⟨_, rfl⟩
    have hn4 : n = 1 ∨ n = 2 ∨ n = 3 ∨ n = 4 := by omega
    obtain ⟨v0, hv0⟩ : ∃ v0, (a.toNat : Int) - ko n = v0 := ⟨_, rfl⟩
    have hv0r : -1000 ≤ v0 ∧ v0 ≤ 1000 := by
      rcases hn4 with rfl | rfl | rfl | rfl <;> simp [ko] at hv0 <;> omega
    rw [hn] at hc hln
    rw [hn, hv0]
    rcases hn4 with rfl | rfl | rfl | rfl
    · repeat' (first | ((first | apply ao | apply aj | apply am | apply al | apply an | apply ak | apply ai | apply ag | apply ah) <;> intro hc <;> (try (simp -implicitDefEqProofs (maxSteps := 2000000) (disch := first | omega | (simp only [ac, ae, ab]; first | done | omega)) only [push_cast, seval, dO, dR, dQ, dP, dM, hc, hc, hn])) <;> (try (exfalso; omega))) | refine ap (gS hk a l hl) ?_ | refine ap (eh hk a) ?_ | (simp -implicitDefEqProofs (maxSteps := 2000000) (disch := first | omega | (simp only [ac, ae, ab]; first | done | omega)) only [push_cast, seval, dO, dR, dQ, dP, dM, hc, hn]))
      refine lZ hk a l 0 (a.toNat) (by omega) (by omega) hl (by omega) (by (((try simp -implicitDefEqProofs only [aw, aq, au.get_set, ar, List.getD_cons_zero, List.getD_cons_succ, ↓reduceIte, reduceCtorEq, Nat.reduceEqDiff]); try (first | (with_reducible assumption) | (with_reducible rfl) | (congr 2 <;> omega) | rfl)))) (by (((try simp -implicitDefEqProofs only [aw, aq, au.get_set, ar, List.getD_cons_zero, List.getD_cons_succ, ↓reduceIte, reduceCtorEq, Nat.reduceEqDiff]); try (first | (with_reducible assumption) | (with_reducible rfl) | (congr 2 <;> omega) | rfl)))) (by (((try simp -implicitDefEqProofs only [aw, aq, au.get_set, ar, List.getD_cons_zero, List.getD_cons_succ, ↓reduceIte, reduceCtorEq, Nat.reduceEqDiff]); try (first | (with_reducible assumption) | (with_reducible rfl) | (congr 2 <;> omega) | rfl)))) (by (((try simp -implicitDefEqProofs only [aw, aq, au.get_set, ar, List.getD_cons_zero, List.getD_cons_succ, ↓reduceIte, reduceCtorEq, Nat.reduceEqDiff]); try (first | (with_reducible assumption) | (with_reducible rfl) | (congr 2 <;> omega) | rfl)))) ?_
      intro ρ g4 g5
      repeat' (first | ((first | apply ao | apply aj | apply am | apply al | apply an | apply ak | apply ai | apply ag | apply ah) <;> intro hc <;> (try (simp -implicitDefEqProofs (maxSteps := 2000000) (disch := first | omega | (simp only [ac, ae, ab]; first | done | omega)) only [push_cast, seval, dO, dR, dQ, dP, dM, hc, g4, g5])) <;> (try (exfalso; omega))) | (simp -implicitDefEqProofs (maxSteps := 2000000) (disch := first | omega | (simp only [ac, ae, ab]; first | done | omega)) only [push_cast, seval, dO, dR, dQ, dP, dM, g4, g5]))
      simp [ko] at hv0
      rw [← hv0]
      (refine ⟨by (repeat first | assumption | exact af.refl _ | apply af.push | refine af.set ?_ (by first | omega | (simp only [ac, ae, ab]; omega) | (have h9 := af.size_le (by assumption); (try simp only [ac, ae, ab] at *); omega)) _ | refine af.drop ?_ (by first | omega | (simp only [ac, ae, ab]; omega) | (have h9 := af.size_le (by assumption); (try simp only [ac, ae, ab] at *); omega)) | refine af.trans ?_ (by assumption)), ?_⟩; (repeat' (first | exact Ses.nil | apply Ses.cons | exact Se.c _ | apply Se.ci | apply Se.cb | exact Se.firm (az.LS _) | exact Se.firm (az.LI _) | exact Se.nil _ | exact Se.emp _ | apply Se.agg | apply Se.tup | rfl | omega)))
    · repeat' (first | ((first | apply ao | apply aj | apply am | apply al | apply an | apply ak | apply ai | apply ag | apply ah) <;> intro hc <;> (try (simp -implicitDefEqProofs (maxSteps := 2000000) (disch := first | omega | (simp only [ac, ae, ab]; first | done | omega)) only [push_cast, seval, dO, dR, dQ, dP, dM, hc, hc, hn])) <;> (try (exfalso; omega))) | refine ap (gS hk a l hl) ?_ | refine ap (eh hk a) ?_ | (simp -implicitDefEqProofs (maxSteps := 2000000) (disch := first | omega | (simp only [ac, ae, ab]; first | done | omega)) only [push_cast, seval, dO, dR, dQ, dP, dM, hc, hn]))
      refine lZ hk a l 1 ((a.toNat : Int) - 192) (by omega) (by omega) hl (by omega) (by (((try simp -implicitDefEqProofs only [aw, aq, au.get_set, ar, List.getD_cons_zero, List.getD_cons_succ, ↓reduceIte, reduceCtorEq, Nat.reduceEqDiff]); try (first | (with_reducible assumption) | (with_reducible rfl) | (congr 2 <;> omega) | rfl)))) (by (((try simp -implicitDefEqProofs only [aw, aq, au.get_set, ar, List.getD_cons_zero, List.getD_cons_succ, ↓reduceIte, reduceCtorEq, Nat.reduceEqDiff]); try (first | (with_reducible assumption) | (with_reducible rfl) | (congr 2 <;> omega) | rfl)))) (by (((try simp -implicitDefEqProofs only [aw, aq, au.get_set, ar, List.getD_cons_zero, List.getD_cons_succ, ↓reduceIte, reduceCtorEq, Nat.reduceEqDiff]); try (first | (with_reducible assumption) | (with_reducible rfl) | (congr 2 <;> omega) | rfl)))) (by (((try simp -implicitDefEqProofs only [aw, aq, au.get_set, ar, List.getD_cons_zero, List.getD_cons_succ, ↓reduceIte, reduceCtorEq, Nat.reduceEqDiff]); try (first | (with_reducible assumption) | (with_reducible rfl) | (congr 2 <;> omega) | rfl)))) ?_
      intro ρ g4 g5
      repeat' (first | ((first | apply ao | apply aj | apply am | apply al | apply an | apply ak | apply ai | apply ag | apply ah) <;> intro hc <;> (try (simp -implicitDefEqProofs (maxSteps := 2000000) (disch := first | omega | (simp only [ac, ae, ab]; first | done | omega)) only [push_cast, seval, dO, dR, dQ, dP, dM, hc, g4, g5])) <;> (try (exfalso; omega))) | (simp -implicitDefEqProofs (maxSteps := 2000000) (disch := first | omega | (simp only [ac, ae, ab]; first | done | omega)) only [push_cast, seval, dO, dR, dQ, dP, dM, g4, g5]))
      simp [ko] at hv0
      rw [← hv0]
      (refine ⟨by (repeat first | assumption | exact af.refl _ | apply af.push | refine af.set ?_ (by first | omega | (simp only [ac, ae, ab]; omega) | (have h9 := af.size_le (by assumption); (try simp only [ac, ae, ab] at *); omega)) _ | refine af.drop ?_ (by first | omega | (simp only [ac, ae, ab]; omega) | (have h9 := af.size_le (by assumption); (try simp only [ac, ae, ab] at *); omega)) | refine af.trans ?_ (by assumption)), ?_⟩; (repeat' (first | exact Ses.nil | apply Ses.cons | exact Se.c _ | apply Se.ci | apply Se.cb | exact Se.firm (az.LS _) | exact Se.firm (az.LI _) | exact Se.nil _ | exact Se.emp _ | apply Se.agg | apply Se.tup | rfl | omega)))
    · repeat' (first | ((first | apply ao | apply aj | apply am | apply al | apply an | apply ak | apply ai | apply ag | apply ah) <;> intro hc <;> (try (simp -implicitDefEqProofs (maxSteps := 2000000) (disch := first | omega | (simp only [ac, ae, ab]; first | done | omega)) only [push_cast, seval, dO, dR, dQ, dP, dM, hc, hc, hn])) <;> (try (exfalso; omega))) | refine ap (gS hk a l hl) ?_ | refine ap (eh hk a) ?_ | (simp -implicitDefEqProofs (maxSteps := 2000000) (disch := first | omega | (simp only [ac, ae, ab]; first | done | omega)) only [push_cast, seval, dO, dR, dQ, dP, dM, hc, hn]))
      refine lZ hk a l 2 ((a.toNat : Int) - 224) (by omega) (by omega) hl (by omega) (by (((try simp -implicitDefEqProofs only [aw, aq, au.get_set, ar, List.getD_cons_zero, List.getD_cons_succ, ↓reduceIte, reduceCtorEq, Nat.reduceEqDiff]); try (first | (with_reducible assumption) | (with_reducible rfl) | (congr 2 <;> omega) | rfl)))) (by (((try simp -implicitDefEqProofs only [aw, aq, au.get_set, ar, List.getD_cons_zero, List.getD_cons_succ, ↓reduceIte, reduceCtorEq, Nat.reduceEqDiff]); try (first | (with_reducible assumption) | (with_reducible rfl) | (congr 2 <;> omega) | rfl)))) (by (((try simp -implicitDefEqProofs only [aw, aq, au.get_set, ar, List.getD_cons_zero, List.getD_cons_succ, ↓reduceIte, reduceCtorEq, Nat.reduceEqDiff]); try (first | (with_reducible assumption) | (with_reducible rfl) | (congr 2 <;> omega) | rfl)))) (by (((try simp -implicitDefEqProofs only [aw, aq, au.get_set, ar, List.getD_cons_zero, List.getD_cons_succ, ↓reduceIte, reduceCtorEq, Nat.reduceEqDiff]); try (first | (with_reducible assumption) | (with_reducible rfl) | (congr 2 <;> omega) | rfl)))) ?_
      intro ρ g4 g5
      repeat' (first | ((first | apply ao | apply aj | apply am | apply al | apply an | apply ak | apply ai | apply ag | apply ah) <;> intro hc <;> (try (simp -implicitDefEqProofs (maxSteps := 2000000) (disch := first | omega | (simp only [ac, ae, ab]; first | done | omega)) only [push_cast, seval, dO, dR, dQ, dP, dM, hc, g4, g5])) <;> (try (exfalso; omega))) | (simp -implicitDefEqProofs (maxSteps := 2000000) (disch := first | omega | (simp only [ac, ae, ab]; first | done | omega)) only [push_cast, seval, dO, dR, dQ, dP, dM, g4, g5]))
      simp [ko] at hv0
      rw [← hv0]
      (refine ⟨by (repeat first | assumption | exact af.refl _ | apply af.push | refine af.set ?_ (by first | omega | (simp only [ac, ae, ab]; omega) | (have h9 := af.size_le (by assumption); (try simp only [ac, ae, ab] at *); omega)) _ | refine af.drop ?_ (by first | omega | (simp only [ac, ae, ab]; omega) | (have h9 := af.size_le (by assumption); (try simp only [ac, ae, ab] at *); omega)) | refine af.trans ?_ (by assumption)), ?_⟩; (repeat' (first | exact Ses.nil | apply Ses.cons | exact Se.c _ | apply Se.ci | apply Se.cb | exact Se.firm (az.LS _) | exact Se.firm (az.LI _) | exact Se.nil _ | exact Se.emp _ | apply Se.agg | apply Se.tup | rfl | omega)))
    · repeat' (first | ((first | apply ao | apply aj | apply am | apply al | apply an | apply ak | apply ai | apply ag | apply ah) <;> intro hc <;> (try (simp -implicitDefEqProofs (maxSteps := 2000000) (disch := first | omega | (simp only [ac, ae, ab]; first | done | omega)) only [push_cast, seval, dO, dR, dQ, dP, dM, hc, hc, hn])) <;> (try (exfalso; omega))) | refine ap (gS hk a l hl) ?_ | refine ap (eh hk a) ?_ | (simp -implicitDefEqProofs (maxSteps := 2000000) (disch := first | omega | (simp only [ac, ae, ab]; first | done | omega)) only [push_cast, seval, dO, dR, dQ, dP, dM, hc, hn]))
      refine lZ hk a l 3 ((a.toNat : Int) - 240) (by omega) (by omega) hl (by omega) (by (((try simp -implicitDefEqProofs only [aw, aq, au.get_set, ar, List.getD_cons_zero, List.getD_cons_succ, ↓reduceIte, reduceCtorEq, Nat.reduceEqDiff]); try (first | (with_reducible assumption) | (with_reducible rfl) | (congr 2 <;> omega) | rfl)))) (by (((try simp -implicitDefEqProofs only [aw, aq, au.get_set, ar, List.getD_cons_zero, List.getD_cons_succ, ↓reduceIte, reduceCtorEq, Nat.reduceEqDiff]); try (first | (with_reducible assumption) | (with_reducible rfl) | (congr 2 <;> omega) | rfl)))) (by (((try simp -implicitDefEqProofs only [aw, aq, au.get_set, ar, List.getD_cons_zero, List.getD_cons_succ, ↓reduceIte, reduceCtorEq, Nat.reduceEqDiff]); try (first | (with_reducible assumption) | (with_reducible rfl) | (congr 2 <;> omega) | rfl)))) (by (((try simp -implicitDefEqProofs only [aw, aq, au.get_set, ar, List.getD_cons_zero, List.getD_cons_succ, ↓reduceIte, reduceCtorEq, Nat.reduceEqDiff]); try (first | (with_reducible assumption) | (with_reducible rfl) | (congr 2 <;> omega) | rfl)))) ?_
      intro ρ g4 g5
      repeat' (first | ((first | apply ao | apply aj | apply am | apply al | apply an | apply ak | apply ai | apply ag | apply ah) <;> intro hc <;> (try (simp -implicitDefEqProofs (maxSteps := 2000000) (disch := first | omega | (simp only [ac, ae, ab]; first | done | omega)) only [push_cast, seval, dO, dR, dQ, dP, dM, hc, g4, g5])) <;> (try (exfalso; omega))) | (simp -implicitDefEqProofs (maxSteps := 2000000) (disch := first | omega | (simp only [ac, ae, ab]; first | done | omega)) only [push_cast, seval, dO, dR, dQ, dP, dM, g4, g5]))
      simp [ko] at hv0
      rw [← hv0]
      (refine ⟨by (repeat first | assumption | exact af.refl _ | apply af.push | refine af.set ?_ (by first | omega | (simp only [ac, ae, ab]; omega) | (have h9 := af.size_le (by assumption); (try simp only [ac, ae, ab] at *); omega)) _ | refine af.drop ?_ (by first | omega | (simp only [ac, ae, ab]; omega) | (have h9 := af.size_le (by assumption); (try simp only [ac, ae, ab] at *); omega)) | refine af.trans ?_ (by assumption)), ?_⟩; (repeat' (first | exact Ses.nil | apply Ses.cons | exact Se.c _ | apply Se.ci | apply Se.cb | exact Se.firm (az.LS _) | exact Se.firm (az.LI _) | exact Se.nil _ | exact Se.emp _ | apply Se.agg | apply Se.tup | rfl | omega)))
  · have ho : aU (a :: l) = (1114112 + (a.toNat : Int), 1) := by rw [dL, if_neg hc]
    rw [ho]
    repeat' (first | ((first | apply ao | apply aj | apply am | apply al | apply an | apply ak | apply ai | apply ag | apply ah) <;> intro hc <;> (try (simp -implicitDefEqProofs (maxSteps := 2000000) (disch := first | omega | (simp only [ac, ae, ab]; first | done | omega)) only [push_cast, seval, dO, dR, dQ, dP, dM, hc])) <;> (try (exfalso; omega))) | refine ap (gS hk a l hl) ?_ | refine ap (eh hk a) ?_ | (simp -implicitDefEqProofs (maxSteps := 2000000) (disch := first | omega | (simp only [ac, ae, ab]; first | done | omega)) only [push_cast, seval, dO, dR, dQ, dP, dM]))
    (refine ⟨by (repeat first | assumption | exact af.refl _ | apply af.push | refine af.set ?_ (by first | omega | (simp only [ac, ae, ab]; omega) | (have h9 := af.size_le (by assumption); (try simp only [ac, ae, ab] at *); omega)) _ | refine af.drop ?_ (by first | omega | (simp only [ac, ae, ab]; omega) | (have h9 := af.size_le (by assumption); (try simp only [ac, ae, ab] at *); omega)) | refine af.trans ?_ (by assumption)), ?_⟩; (repeat' (first | exact Ses.nil | apply Ses.cons | exact Se.c _ | apply Se.ci | apply Se.cb | exact Se.firm (az.LS _) | exact Se.firm (az.LI _) | exact Se.nil _ | exact Se.emp _ | apply Se.agg | apply Se.tup | rfl | omega)))
theorem nb (l : List UInt8) (hl : l.length < 1000000) : PC (XK k) 35 [tx l] (LI (a8 l)) := by
  refine aI fun s => ?_
  refine auF (hk _ (by decide) (by decide)) ?_
  have hdl := eC l
  (try (simp -implicitDefEqProofs (maxSteps := 2000000) (disch := first | omega | (simp only [ac, ae, ab]; first | done | omega)) only [push_cast, seval, qG, qI])) <;> (repeat' ((first | apply ao | apply aj | apply am | apply al | apply an | apply ak | apply ai | apply ag | apply ah) <;> intro hc <;> try (simp -implicitDefEqProofs (maxSteps := 2000000) (disch := first | omega | (simp only [ac, ae, ab]; first | done | omega)) only [push_cast, seval, qG, qI, hc])))
  refine aM (fun m ρ s' => ∃ (p : Nat) (d : List Int), m = l.length - p ∧ p ≤ l.length ∧ a8 l = d ++ a8 (l.drop p) ∧ ρ.get 0 = tx (l.drop p) ∧ Gw s s' 3 1 (ρ.get 3) d.length (d.map (eI .i64)).flatten ∧ af s s') l.length ⟨0, [], rfl, Nat.zero_le _, by simp, by (((try simp -implicitDefEqProofs only [aw, aq, au.get_set, ar, List.getD_cons_zero, List.getD_cons_succ, ↓reduceIte, reduceCtorEq, Nat.reduceEqDiff]); try (first | (with_reducible assumption) | (with_reducible rfl) | (congr 2 <;> omega) | rfl))), by (((try simp -implicitDefEqProofs only [aw, aq, au.get_set, ar, List.getD_cons_zero, List.getD_cons_succ, ↓reduceIte, reduceCtorEq, Nat.reduceEqDiff]); try (first | (with_reducible assumption) | (with_reducible rfl) | (congr 2 <;> omega) | rfl))); exact Gw.nil, by (repeat first | assumption | exact af.refl _ | apply af.push | refine af.set ?_ (by first | omega | (simp only [ac, ae, ab]; omega) | (have h9 := af.size_le (by assumption); (try simp only [ac, ae, ab] at *); omega)) _ | refine af.drop ?_ (by first | omega | (simp only [ac, ae, ab]; omega) | (have h9 := af.size_le (by assumption); (try simp only [ac, ae, ab] at *); omega)) | refine af.trans ?_ (by assumption))⟩ ?_
  rintro m ρ s' ⟨p, d, rfl, hp, hd, g0, j1, j2⟩
  obtain ⟨v, g3⟩ : ∃ v, ρ.get 3 = v := ⟨_, rfl⟩
  rw [g3] at j1
  have hdd := congrArg List.length hd
  rw [List.length_append] at hdd
  obtain ⟨x, hx⟩ : ∃ x, l.drop p = x := ⟨_, rfl⟩
  have hxl : x.length = l.length - p := by rw [← hx, List.length_drop]
  rw [hx] at g0 hd
  cases x with
  | nil =>
    simp only [List.length_nil] at hxl
    rw [dD, List.append_nil] at hd
    repeat' (first | ((first | apply ao | apply aj | apply am | apply al | apply an | apply ak | apply ai | apply ag | apply ah) <;> intro hc <;> (try (simp -implicitDefEqProofs (maxSteps := 2000000) (disch := first | omega | (simp only [ac, ae, ab]; first | done | omega)) only [push_cast, seval, qG, qI, hc, g0, g3])) <;> (try (exfalso; omega))) | (simp -implicitDefEqProofs (maxSteps := 2000000) (disch := first | omega | (simp only [ac, ae, ab]; first | done | omega)) only [push_cast, seval, qG, qI, g0, g3]))
    rw [hd]
    exact j1.outm j2 (fun _ => rfl) (He .i64) (by omega)
  | cons a r =>
    have hos := H2 a r
    rw [br (s := a :: r) (by simp)] at hd
    simp only [List.length_cons] at hxl
    have ho := akB hk a r (by omega)
    have hdr : List.drop ((aU (a :: r)).2) (a :: r) = l.drop (p + (aU (a :: r)).2) := by rw [← hx, List.drop_drop]
    rw [hdr] at hd
    have htk : List.take (r.length + 1) (a :: r) = a :: r := List.take_of_length_le (by simp)
    generalize (aU (a :: r)).1 = v1 at *
    generalize (aU (a :: r)).2 = n1 at *
    repeat' (first | ((first | apply ao | apply aj | apply am | apply al | apply an | apply ak | apply ai | apply ag | apply ah) <;> intro hc <;> (try (simp -implicitDefEqProofs (maxSteps := 2000000) (disch := first | omega | (simp only [ac, ae, ab]; first | done | omega)) only [push_cast, seval, qG, qI, hc, g0, g3])) <;> (try (exfalso; omega))) | refine ap (ho) ?_ | (simp -implicitDefEqProofs (maxSteps := 2000000) (disch := first | omega | (simp only [ac, ae, ab]; first | done | omega)) only [push_cast, seval, qG, qI, g0, g3]))
    refine Gw.step (m := 1) (j1.push _) (j2.push _) rfl rfl rfl (cp (by constructor <;> (try dsimp only) <;> omega)) ?_
    intro v' s2 hg hbt hn hk'
    (try (simp -implicitDefEqProofs (maxSteps := 2000000) (disch := first | omega | (simp only [ac, ae, ab]; first | done | omega)) only [push_cast, seval, qG, qI, g0, htk])) <;> (repeat' ((first | apply ao | apply aj | apply am | apply al | apply an | apply ak | apply ai | apply ag | apply ah) <;> intro hc <;> try (simp -implicitDefEqProofs (maxSteps := 2000000) (disch := first | omega | (simp only [ac, ae, ab]; first | done | omega)) only [push_cast, seval, qG, qI, hc, g0, htk])))
    refine ⟨_, by omega, p + n1, d ++ [v1], rfl, by omega, by rw [hd]; simp, ?_, hg.cast (by simp) (by simp [eI]), hk'⟩
    rw [hdr]
omit hk in
theorem oB : bv 65533 = [239, 191, 189] := by
  unfold bv
  rw [if_neg (by omega), if_neg (by omega), if_pos (by omega)]
  rfl
omit hk in
theorem KC {s : List UInt8} (h : s ≠ []) : s.take 3 = [239, 191, 189] ↔ (aU s).1 = 65533 := by
  have hw : aU (bv 65533 ++ s.drop 3) = (65533, 3) := by rw [jb (by omega) (by omega) (by omega), oB]; rfl
  constructor
  · intro h3
    have : s = bv 65533 ++ s.drop 3 := by
      rw [oB, ← h3, List.take_append_drop]
    rw [this, hw]
  · intro h3
    rcases d7 s h with ⟨v, r, h0, h1, h2, hs, ho⟩ | ⟨a, r, hs, ha, hc, ho⟩
    · rw [ho] at h3
      simp only at h3
      subst h3
      rw [hs, oB]
      rfl
    · rw [ho] at h3
      simp only at h3
      have := a.toNat_lt
      omega
theorem H3 (s : List UInt8) (h : s ≠ []) (hl : s.length < 1000000000) : PC (XK k) 118 [tx s, .c (.int .i32 (bN (aU s).1))] (.c (.int .i64 (aU s).1)) := by
  refine aI fun st => ?_
  refine akT (hk _ (by decide) (by decide)) ?_
  have hw := KC h
  rcases d7 s h with ⟨v, r, h0, h1, h2, hs, ho⟩ | ⟨a, r, hs, ha, hc, ho⟩
  · rw [ho] at hw ⊢
    have hr : bN v = v := by unfold bN; rw [if_neg (by omega)]
    simp only [hr]
    by_cases hv : v = 65533
    · have h3 : (s.take 3 = [239, 191, 189]) = True := eq_true (hw.2 hv)
      subst hv
      repeat' (first | ((first | apply ao | apply aj | apply am | apply al | apply an | apply ak | apply ai | apply ag | apply ah) <;> intro hc <;> (try (simp -implicitDefEqProofs (maxSteps := 2000000) (disch := first | omega | (simp only [ac, ae, ab]; first | done | omega)) only [push_cast, seval, px, oK, hc, h3])) <;> (try (exfalso; omega))) | refine ap (jh hk s [239, 191, 189] hl (by simp)) ?_ | (simp -implicitDefEqProofs (maxSteps := 2000000) (disch := first | omega | (simp only [ac, ae, ab]; first | done | omega)) only [push_cast, seval, px, oK, h3]))
      exact aD (by (repeat first | assumption | exact af.refl _ | apply af.push | refine af.set ?_ (by first | omega | (simp only [ac, ae, ab]; omega) | (have h9 := af.size_le (by assumption); (try simp only [ac, ae, ab] at *); omega)) _ | refine af.drop ?_ (by first | omega | (simp only [ac, ae, ab]; omega) | (have h9 := af.size_le (by assumption); (try simp only [ac, ae, ab] at *); omega)) | refine af.trans ?_ (by assumption))) rfl
    · repeat' (first | ((first | apply ao | apply aj | apply am | apply al | apply an | apply ak | apply ai | apply ag | apply ah) <;> intro hc <;> (try (simp -implicitDefEqProofs (maxSteps := 2000000) (disch := first | omega | (simp only [ac, ae, ab]; first | done | omega)) only [push_cast, seval, px, oK, hc])) <;> (try (exfalso; omega))) | refine ap (jh hk s [239, 191, 189] hl (by simp)) ?_ | (simp -implicitDefEqProofs (maxSteps := 2000000) (disch := first | omega | (simp only [ac, ae, ab]; first | done | omega)) only [push_cast, seval, px, oK]))
      exact aD (by (repeat first | assumption | exact af.refl _ | apply af.push | refine af.set ?_ (by first | omega | (simp only [ac, ae, ab]; omega) | (have h9 := af.size_le (by assumption); (try simp only [ac, ae, ab] at *); omega)) _ | refine af.drop ?_ (by first | omega | (simp only [ac, ae, ab]; omega) | (have h9 := af.size_le (by assumption); (try simp only [ac, ae, ab] at *); omega)) | refine af.trans ?_ (by assumption))) rfl
  · rw [ho] at hw ⊢
    have hal := a.toNat_lt
    have hr : bN (1114112 + (a.toNat : Int)) = 65533 := by unfold bN; rw [if_pos (by omega)]
    have h3 : (s.take 3 = [239, 191, 189]) = False := eq_false (fun e => by have := hw.1 e; simp only at this; omega)
    simp only [hr]
    have hi : s[0]? = some a := by rw [hs]; rfl
    have hpos : 0 < s.length := List.length_pos_iff.2 h
    repeat' (first | ((first | apply ao | apply aj | apply am | apply al | apply an | apply ak | apply ai | apply ag | apply ah) <;> intro hc <;> (try (simp -implicitDefEqProofs (maxSteps := 2000000) (disch := first | omega | (simp only [ac, ae, ab]; first | done | omega)) only [push_cast, seval, px, oK, hc, h3, hi])) <;> (try (exfalso; omega))) | refine ap (jh hk s [239, 191, 189] hl (by simp)) ?_ | (simp -implicitDefEqProofs (maxSteps := 2000000) (disch := first | omega | (simp only [ac, ae, ab]; first | done | omega)) only [push_cast, seval, px, oK, h3, hi]))
    exact aD (by (repeat first | assumption | exact af.refl _ | apply af.push | refine af.set ?_ (by first | omega | (simp only [ac, ae, ab]; omega) | (have h9 := af.size_le (by assumption); (try simp only [ac, ae, ab] at *); omega)) _ | refine af.drop ?_ (by first | omega | (simp only [ac, ae, ab]; omega) | (have h9 := af.size_le (by assumption); (try simp only [ac, ae, ab] at *); omega)) | refine af.trans ?_ (by assumption))) rfl
theorem KU (v : Int) (h0 : 0 ≤ v) (h1 : v ≤ 1114111) (h2 : v < 55296 ∨ 57343 < v) : PC (XK k) 134 [.c (.int .i32 v)] (.c (.int .i64 (bv v).length)) := by
  refine aI fun s => ?_
  refine al8 (hk _ (by decide) (by decide)) ?_
  have hl := af7 v h0 h1
  (try (simp -implicitDefEqProofs (maxSteps := 2000000) (disch := first | omega | (simp only [ac, ae, ab]; first | done | omega)) only [push_cast, seval, Zx, ae3, adI, afK])) <;> (repeat' ((first | apply ao | apply aj | apply am | apply al | apply an | apply ak | apply ai | apply ag | apply ah) <;> intro hc <;> try (simp -implicitDefEqProofs (maxSteps := 2000000) (disch := first | omega | (simp only [ac, ae, ab]; first | done | omega)) only [push_cast, seval, Zx, ae3, adI, afK, hc])))
  all_goals
    refine aD (by (repeat first | assumption | exact af.refl _ | apply af.push | refine af.set ?_ (by first | omega | (simp only [ac, ae, ab]; omega) | (have h9 := af.size_le (by assumption); (try simp only [ac, ae, ab] at *); omega)) _ | refine af.drop ?_ (by first | omega | (simp only [ac, ae, ab]; omega) | (have h9 := af.size_le (by assumption); (try simp only [ac, ae, ab] at *); omega)) | refine af.trans ?_ (by assumption))) ?_
    rw [hl]
    (repeat' split) <;> omega
theorem at9 (s : List UInt8) (h : s ≠ []) (hl : s.length < 1000000000) : PC (XK k) 111 [tx s] (.tup [.c (.int .i64 (aU s).1), .c (.int .i64 (aU s).2)]) := by
  refine aI fun st => ?_
  refine ajO (hk _ (by decide) (by decide)) ?_
  have hpos : 0 < s.length := List.length_pos_iff.2 h
  have hd := pn s 0 hpos
  rw [List.drop_zero] at hd
  have hrn := KT h
  have hv := H3 hk s h hl
  (try (simp -implicitDefEqProofs (maxSteps := 2000000) (disch := first | omega | (simp only [ac, ae, ab]; first | done | omega)) only [push_cast, seval, pF, pN, oS])) <;> (repeat' ((first | apply ao | apply aj | apply am | apply al | apply an | apply ak | apply ai | apply ag | apply ah) <;> intro hc <;> try (simp -implicitDefEqProofs (maxSteps := 2000000) (disch := first | omega | (simp only [ac, ae, ab]; first | done | omega)) only [push_cast, seval, pF, pN, oS, hc])))
  refine aM (fun m ρ s' => ρ.get 0 = tx s ∧ ρ.get 8 = .ptr ⟨st.size, 0, none⟩ ∧ s'.get st.size = some (.iter ⟨s.toArray⟩ 0) ∧ af st s') 1 ⟨by (((try simp -implicitDefEqProofs only [aw, aq, au.get_set, ar, List.getD_cons_zero, List.getD_cons_succ, ↓reduceIte, reduceCtorEq, Nat.reduceEqDiff]); try (first | (with_reducible assumption) | (with_reducible rfl) | (congr 2 <;> omega) | rfl))), by (((try simp -implicitDefEqProofs only [aw, aq, au.get_set, ar, List.getD_cons_zero, List.getD_cons_succ, ↓reduceIte, reduceCtorEq, Nat.reduceEqDiff]); try (first | (with_reducible assumption) | (with_reducible rfl) | (congr 2 <;> omega) | rfl))), by (simp -implicitDefEqProofs (disch := first | omega | (simp only [ac, ae, ab]; first | done | omega)) only [eu, dN, bB, bZ, ef]), by (repeat first | assumption | exact af.refl _ | apply af.push | refine af.set ?_ (by first | omega | (simp only [ac, ae, ab]; omega) | (have h9 := af.size_le (by assumption); (try simp only [ac, ae, ab] at *); omega)) _ | refine af.drop ?_ (by first | omega | (simp only [ac, ae, ab]; omega) | (have h9 := af.size_le (by assumption); (try simp only [ac, ae, ab] at *); omega)) | refine af.trans ?_ (by assumption))⟩ ?_
  rintro m ρ s' ⟨g0, g8, j1, j2⟩
  have hsz := VS.lt_of_get j1
  rcases d7 s h with ⟨v, r, h0, h1, h2, hs, ho⟩ | ⟨a, r, hs, ha, hc, ho⟩
  · rw [ho] at hd hrn hv ⊢
    have hr : bN v = v := by unfold bN; rw [if_neg (by omega)]
    simp only [hr] at hd hrn hv
    repeat' (first | ((first | apply ao | apply aj | apply am | apply al | apply an | apply ak | apply ai | apply ag | apply ah) <;> intro hc <;> (try (simp -implicitDefEqProofs (maxSteps := 2000000) (disch := first | omega | (simp only [ac, ae, ab]; first | done | omega)) only [push_cast, seval, pF, pN, oS, hc, g0, g8, j1, hd, hrn])) <;> (try (exfalso; omega))) | refine ap (hv) ?_ | refine ap (KU hk v h0 h1 h2) ?_ | (simp -implicitDefEqProofs (maxSteps := 2000000) (disch := first | omega | (simp only [ac, ae, ab]; first | done | omega)) only [push_cast, seval, pF, pN, oS, g0, g8, j1, hd, hrn]))
    exact ⟨by (repeat first | assumption | exact af.refl _ | apply af.push | refine af.set ?_ (by first | omega | (simp only [ac, ae, ab]; omega) | (have h9 := af.size_le (by assumption); (try simp only [ac, ae, ab] at *); omega)) _ | refine af.drop ?_ (by first | omega | (simp only [ac, ae, ab]; omega) | (have h9 := af.size_le (by assumption); (try simp only [ac, ae, ab] at *); omega)) | refine af.trans ?_ (by assumption)), Se.firm (az.tup (all_cons (az.c _) (all_cons (az.c _) all_nil)))⟩
  · rw [ho] at hd hrn hv ⊢
    have hal := a.toNat_lt
    have hr : bN (1114112 + (a.toNat : Int)) = 65533 := by unfold bN; rw [if_pos (by omega)]
    simp only [hr] at hd hrn hv
    obtain ⟨r0, hr0⟩ : ∃ r0 : Nat, r0 = 65533 := ⟨_, rfl⟩
    have hd' : Utf8.decode ⟨s.toArray⟩ 0 = (r0, 1) := by rw [hr0]; exact hd
    have hv : PC (XK k) 118 [tx s, .c (.int .i32 (r0 : Int))] (.c (.int .i64 (1114112 + (a.toNat : Int)))) := by rw [hr0]; exact hv
    repeat' (first | ((first | apply ao | apply aj | apply am | apply al | apply an | apply ak | apply ai | apply ag | apply ah) <;> intro hc <;> (try (simp -implicitDefEqProofs (maxSteps := 2000000) (disch := first | omega | (simp only [ac, ae, ab]; first | done | omega)) only [push_cast, seval, pF, pN, oS, hc, g0, g8, j1, hd'])) <;> (try (exfalso; omega))) | refine ap (hv) ?_ | (simp -implicitDefEqProofs (maxSteps := 2000000) (disch := first | omega | (simp only [ac, ae, ab]; first | done | omega)) only [push_cast, seval, pF, pN, oS, g0, g8, j1, hd']))
    exact ⟨by (repeat first | assumption | exact af.refl _ | apply af.push | refine af.set ?_ (by first | omega | (simp only [ac, ae, ab]; omega) | (have h9 := af.size_le (by assumption); (try simp only [ac, ae, ab] at *); omega)) _ | refine af.drop ?_ (by first | omega | (simp only [ac, ae, ab]; omega) | (have h9 := af.size_le (by assumption); (try simp only [ac, ae, ab] at *); omega)) | refine af.trans ?_ (by assumption)), Se.firm (az.tup (all_cons (az.c _) (all_cons (az.c _) all_nil)))⟩
end
end Go.Proofs.YticllcglldbffaaDoor.Ab
