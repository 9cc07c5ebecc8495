/- Signs: what may be, and lists of them. -/
import Derived.Test.YtndedkpcfjnecaaD
import Derived.Test.YtndedkpcfjnecaaD3
namespace Go.Proofs.Ytndedkpcfjnecaa.Ab
open Go.Proofs
set_option maxRecDepth 100000
set_option maxHeartbeats 2000000
set_option linter.unusedSimpArgs false
set_option linter.unusedVariables false
def right (v : Int) : Bool := (decide (0 ≤ v) && decide (v ≤ 1114111) && (decide (v < 55296) || decide (57343 < v))) || (!(decide (0 ≤ v) && decide (v ≤ 1114111)) && (decide (1114240 ≤ v) && decide (v ≤ 1114367)))
/-- May a sign be? -/
def rightS (p : Int × Int) : Bool := right p.1 && decide (0 ≤ p.2) && decide (p.2 ≤ 5)
theorem take_snoc {α : Type} {l : List α} {i : Nat} {x : α} (h : l[i]? = some x) : l.take (i + 1) = l.take i ++ [x] := by rw [List.take_add_one, h]; rfl
variable {k : Nat → List Value → Option Value} (hk : ∀ f, f ≠ 69 → Open k f)
include hk
theorem right_ok (v : Int) : PC (XK k) 93 [.c (.int .i64 v)] (.c (.bool (right v))) := by
  refine PC_of fun s => ?_
  refine f93_in (hk _ (by decide)) ?_
  (try (simp -implicitDefEqProofs (maxSteps := 2000000) (disch := first | omega | (simp only [vz_push, vz_set, drop_size]; first | done | omega)) only [push_cast, seval, f93N0, f93N1])) <;> (repeat' ((first | apply ga_dec | apply ga_ndec | apply cd_dec | apply cd_ndec | apply gd_dec | apply gd_ndec | apply ga_split | apply cd_split | apply gd_split) <;> intro hc <;> try (simp -implicitDefEqProofs (maxSteps := 2000000) (disch := first | omega | (simp only [vz_push, vz_set, drop_size]; first | done | omega)) only [push_cast, seval, f93N0, f93N1, hc])))
  all_goals exact out_bool (by (repeat first | assumption | exact KeepA.refl _ | apply KeepA.push | refine KeepA.set ?_ (by first | omega | (simp only [vz_push, vz_set, drop_size]; omega) | (have h9 := KeepA.size_le (by assumption); (try simp only [vz_push, vz_set, drop_size] at *); omega)) _ | refine KeepA.drop ?_ (by first | omega | (simp only [vz_push, vz_set, drop_size]; omega) | (have h9 := KeepA.size_le (by assumption); (try simp only [vz_push, vz_set, drop_size] at *); omega)) | refine KeepA.trans ?_ (by assumption))) (by simp [right, *])
theorem rightS_ok (p : Int × Int) : PC (XK k) 60 [.agg (eS p)] (.c (.bool (rightS p))) := by
  refine PC_of fun s => ?_
  refine f60_in (hk _ (by decide)) ?_
  (try (simp -implicitDefEqProofs (maxSteps := 2000000) (disch := first | omega | (simp only [vz_push, vz_set, drop_size]; first | done | omega)) only [push_cast, seval, f60N0, eS])) <;> (repeat' ((first | apply ga_dec | apply ga_ndec | apply cd_dec | apply cd_ndec | apply gd_dec | apply gd_ndec | apply ga_split | apply cd_split | apply gd_split) <;> intro hc <;> try (simp -implicitDefEqProofs (maxSteps := 2000000) (disch := first | omega | (simp only [vz_push, vz_set, drop_size]; first | done | omega)) only [push_cast, seval, f60N0, hc, eS])))
  refine VC_pure (right_ok hk _) ?_
  (try (simp -implicitDefEqProofs (maxSteps := 2000000) (disch := first | omega | (simp only [vz_push, vz_set, drop_size]; first | done | omega)) only [push_cast, seval, f60N0, eS])) <;> (repeat' ((first | apply ga_dec | apply ga_ndec | apply cd_dec | apply cd_ndec | apply gd_dec | apply gd_ndec | apply ga_split | apply cd_split | apply gd_split) <;> intro hc <;> try (simp -implicitDefEqProofs (maxSteps := 2000000) (disch := first | omega | (simp only [vz_push, vz_set, drop_size]; first | done | omega)) only [push_cast, seval, f60N0, hc, eS])))
  all_goals exact out_bool (by (repeat first | assumption | exact KeepA.refl _ | apply KeepA.push | refine KeepA.set ?_ (by first | omega | (simp only [vz_push, vz_set, drop_size]; omega) | (have h9 := KeepA.size_le (by assumption); (try simp only [vz_push, vz_set, drop_size] at *); omega)) _ | refine KeepA.drop ?_ (by first | omega | (simp only [vz_push, vz_set, drop_size]; omega) | (have h9 := KeepA.size_le (by assumption); (try simp only [vz_push, vz_set, drop_size] at *); omega)) | refine KeepA.trans ?_ (by assumption))) (by simp [rightS, *])
theorem check_ok (l : List (Int × Int)) (hn : l.length < 1099511627776) : PC (XK k) 56 [LS l] (.c (.int .i64 (if l.all rightS = true then 0 else 2))) := by
  refine PC_of fun s => ?_
  refine f56_in (hk _ (by decide)) ?_
  (try (simp -implicitDefEqProofs (maxSteps := 2000000) (disch := first | omega | (simp only [vz_push, vz_set, drop_size]; first | done | omega)) only [push_cast, seval, f56N0, f56N1, f56N2])) <;> (repeat' ((first | apply ga_dec | apply ga_ndec | apply cd_dec | apply cd_ndec | apply gd_dec | apply gd_ndec | apply ga_split | apply cd_split | apply gd_split) <;> intro hc <;> try (simp -implicitDefEqProofs (maxSteps := 2000000) (disch := first | omega | (simp only [vz_push, vz_set, drop_size]; first | done | omega)) only [push_cast, seval, f56N0, f56N1, f56N2, hc])))
  refine VW_iter (fun m ρ s' => ∃ i : Nat, m = l.length - i ∧ i ≤ l.length ∧ ρ.get 5 = LS l ∧ ρ.get 6 = .c (.int .i64 l.length) ∧ ρ.get 7 = .c (.int .i64 i) ∧ (KeepA s s') ∧ ((l.take i).all rightS = true)) (l.length) ⟨0, rfl, Nat.zero_le _, by (((try simp -implicitDefEqProofs only [eA_tmp, eA_const, AEnv.get_set, ofA_get, List.getD_cons_zero, List.getD_cons_succ, ↓reduceIte, reduceCtorEq, Nat.reduceEqDiff]); try (first | (with_reducible assumption) | (with_reducible rfl) | (congr 2 <;> omega) | rfl))), by (((try simp -implicitDefEqProofs only [eA_tmp, eA_const, AEnv.get_set, ofA_get, List.getD_cons_zero, List.getD_cons_succ, ↓reduceIte, reduceCtorEq, Nat.reduceEqDiff]); try (first | (with_reducible assumption) | (with_reducible rfl) | (congr 2 <;> omega) | rfl))), by (((try simp -implicitDefEqProofs only [eA_tmp, eA_const, AEnv.get_set, ofA_get, List.getD_cons_zero, List.getD_cons_succ, ↓reduceIte, reduceCtorEq, Nat.reduceEqDiff]); try (first | (with_reducible assumption) | (with_reducible rfl) | (congr 2 <;> omega) | rfl))), KeepA.refl _, rfl⟩ ?_
  rintro m ρ s' ⟨i, rfl, hi, g5, g6, g7, j1, j2⟩
  (try (simp -implicitDefEqProofs (maxSteps := 2000000) (disch := first | omega | (simp only [vz_push, vz_set, drop_size]; first | done | omega)) only [push_cast, seval, f56N0, f56N1, f56N2, g5, g6, g7])) <;> (repeat' ((first | apply ga_dec | apply ga_ndec | apply cd_dec | apply cd_ndec | apply gd_dec | apply gd_ndec | apply ga_split | apply cd_split | apply gd_split) <;> intro hc <;> try (simp -implicitDefEqProofs (maxSteps := 2000000) (disch := first | omega | (simp only [vz_push, vz_set, drop_size]; first | done | omega)) only [push_cast, seval, f56N0, f56N1, f56N2, hc, g5, g6, g7])))
  · have hil : i < l.length := by omega
    have hx := List.getElem?_eq_getElem hil
    generalize l[i] = x at hx
    (try (simp -implicitDefEqProofs (maxSteps := 2000000) (disch := first | omega | (simp only [vz_push, vz_set, drop_size]; first | done | omega)) only [push_cast, seval, f56N0, f56N1, f56N2, g5, g6, g7, hx, eS])) <;> (repeat' ((first | apply ga_dec | apply ga_ndec | apply cd_dec | apply cd_ndec | apply gd_dec | apply gd_ndec | apply ga_split | apply cd_split | apply gd_split) <;> intro hc <;> try (simp -implicitDefEqProofs (maxSteps := 2000000) (disch := first | omega | (simp only [vz_push, vz_set, drop_size]; first | done | omega)) only [push_cast, seval, f56N0, f56N1, f56N2, hc, g5, g6, g7, hx, eS])))
    refine VC_pure (rightS_ok hk x) ?_
    have ht := take_snoc hx
    (try (simp -implicitDefEqProofs (maxSteps := 2000000) (disch := first | omega | (simp only [vz_push, vz_set, drop_size]; first | done | omega)) only [push_cast, seval, f56N0, f56N1, f56N2, g5, g6, g7, hx])) <;> (repeat' ((first | apply ga_dec | apply ga_ndec | apply cd_dec | apply cd_ndec | apply gd_dec | apply gd_ndec | apply ga_split | apply cd_split | apply gd_split) <;> intro hc <;> try (simp -implicitDefEqProofs (maxSteps := 2000000) (disch := first | omega | (simp only [vz_push, vz_set, drop_size]; first | done | omega)) only [push_cast, seval, f56N0, f56N1, f56N2, hc, g5, g6, g7, hx])))
    · refine out_int (by (repeat first | assumption | exact KeepA.refl _ | apply KeepA.push | refine KeepA.set ?_ (by first | omega | (simp only [vz_push, vz_set, drop_size]; omega) | (have h9 := KeepA.size_le (by assumption); (try simp only [vz_push, vz_set, drop_size] at *); omega)) _ | refine KeepA.drop ?_ (by first | omega | (simp only [vz_push, vz_set, drop_size]; omega) | (have h9 := KeepA.size_le (by assumption); (try simp only [vz_push, vz_set, drop_size] at *); omega)) | refine KeepA.trans ?_ (by assumption))) ?_
      rw [if_neg]
      intro h
      have := List.all_eq_true.1 h x (List.mem_of_getElem? hx)
      rw [this] at hc; cases hc
    · refine ⟨_ - (i + 1), by omega, i + 1, rfl, by omega, ?_⟩ <;> (try simp only [Int.natCast_add, Int.natCast_one, cast_lit, and_true, true_and, eq_self])
      exact ⟨by (repeat first | assumption | exact KeepA.refl _ | apply KeepA.push | refine KeepA.set ?_ (by first | omega | (simp only [vz_push, vz_set, drop_size]; omega) | (have h9 := KeepA.size_le (by assumption); (try simp only [vz_push, vz_set, drop_size] at *); omega)) _ | refine KeepA.drop ?_ (by first | omega | (simp only [vz_push, vz_set, drop_size]; omega) | (have h9 := KeepA.size_le (by assumption); (try simp only [vz_push, vz_set, drop_size] at *); omega)) | refine KeepA.trans ?_ (by assumption)), by simp [ht, j2]; simpa using hc⟩
  · have : i = l.length := by omega
    subst this
    rw [List.take_length] at j2
    exact out_int j1 (by rw [if_pos j2])
theorem rright_ok (v : Int) : PC (XK k) 95 [.c (.int .i64 v)] (.c (.bool (right v))) := by
  refine PC_of fun s => ?_
  refine f95_in (hk _ (by decide)) ?_
  (try (simp -implicitDefEqProofs (maxSteps := 2000000) (disch := first | omega | (simp only [vz_push, vz_set, drop_size]; first | done | omega)) only [push_cast, seval, f95N0, f95N1])) <;> (repeat' ((first | apply ga_dec | apply ga_ndec | apply cd_dec | apply cd_ndec | apply gd_dec | apply gd_ndec | apply ga_split | apply cd_split | apply gd_split) <;> intro hc <;> try (simp -implicitDefEqProofs (maxSteps := 2000000) (disch := first | omega | (simp only [vz_push, vz_set, drop_size]; first | done | omega)) only [push_cast, seval, f95N0, f95N1, hc])))
  all_goals (refine out_bool (by (repeat first | assumption | exact KeepA.refl _ | apply KeepA.push | refine KeepA.set ?_ (by first | omega | (simp only [vz_push, vz_set, drop_size]; omega) | (have h9 := KeepA.size_le (by assumption); (try simp only [vz_push, vz_set, drop_size] at *); omega)) _ | refine KeepA.drop ?_ (by first | omega | (simp only [vz_push, vz_set, drop_size]; omega) | (have h9 := KeepA.size_le (by assumption); (try simp only [vz_push, vz_set, drop_size] at *); omega)) | refine KeepA.trans ?_ (by assumption))) ?_; simp only [right]; rw [Bool.eq_iff_iff]; simp; omega)
theorem rrightS_ok (p : Int × Int) : PC (XK k) 62 [.agg (eS p)] (.c (.bool (rightS p))) := by
  refine PC_of fun s => ?_
  refine f62_in (hk _ (by decide)) ?_
  (try (simp -implicitDefEqProofs (maxSteps := 2000000) (disch := first | omega | (simp only [vz_push, vz_set, drop_size]; first | done | omega)) only [push_cast, seval, f62N0, eS])) <;> (repeat' ((first | apply ga_dec | apply ga_ndec | apply cd_dec | apply cd_ndec | apply gd_dec | apply gd_ndec | apply ga_split | apply cd_split | apply gd_split) <;> intro hc <;> try (simp -implicitDefEqProofs (maxSteps := 2000000) (disch := first | omega | (simp only [vz_push, vz_set, drop_size]; first | done | omega)) only [push_cast, seval, f62N0, hc, eS])))
  refine VC_pure (rright_ok hk _) ?_
  (try (simp -implicitDefEqProofs (maxSteps := 2000000) (disch := first | omega | (simp only [vz_push, vz_set, drop_size]; first | done | omega)) only [push_cast, seval, f62N0, eS])) <;> (repeat' ((first | apply ga_dec | apply ga_ndec | apply cd_dec | apply cd_ndec | apply gd_dec | apply gd_ndec | apply ga_split | apply cd_split | apply gd_split) <;> intro hc <;> try (simp -implicitDefEqProofs (maxSteps := 2000000) (disch := first | omega | (simp only [vz_push, vz_set, drop_size]; first | done | omega)) only [push_cast, seval, f62N0, hc, eS])))
  all_goals exact out_bool (by (repeat first | assumption | exact KeepA.refl _ | apply KeepA.push | refine KeepA.set ?_ (by first | omega | (simp only [vz_push, vz_set, drop_size]; omega) | (have h9 := KeepA.size_le (by assumption); (try simp only [vz_push, vz_set, drop_size] at *); omega)) _ | refine KeepA.drop ?_ (by first | omega | (simp only [vz_push, vz_set, drop_size]; omega) | (have h9 := KeepA.size_le (by assumption); (try simp only [vz_push, vz_set, drop_size] at *); omega)) | refine KeepA.trans ?_ (by assumption))) (by simp [rightS, *])
theorem all_ok (l : List (Int × Int)) (hn : l.length < 1099511627776) : PC (XK k) 18 [LS l] (.c (.bool (l.all rightS))) := by
  refine PC_of fun s => ?_
  refine f18_in (hk _ (by decide)) ?_
  (try (simp -implicitDefEqProofs (maxSteps := 2000000) (disch := first | omega | (simp only [vz_push, vz_set, drop_size]; first | done | omega)) only [push_cast, seval, f18N0, f18N1, f18N2])) <;> (repeat' ((first | apply ga_dec | apply ga_ndec | apply cd_dec | apply cd_ndec | apply gd_dec | apply gd_ndec | apply ga_split | apply cd_split | apply gd_split) <;> intro hc <;> try (simp -implicitDefEqProofs (maxSteps := 2000000) (disch := first | omega | (simp only [vz_push, vz_set, drop_size]; first | done | omega)) only [push_cast, seval, f18N0, f18N1, f18N2, hc])))
  refine VW_iter (fun m ρ s' => ∃ i : Nat, m = l.length - i ∧ i ≤ l.length ∧ ρ.get 0 = LS l ∧ ρ.get 3 = .c (.int .i64 i) ∧ (s' = s) ∧ ((l.take i).all rightS = true)) (l.length) ⟨0, rfl, Nat.zero_le _, by (((try simp -implicitDefEqProofs only [eA_tmp, eA_const, AEnv.get_set, ofA_get, List.getD_cons_zero, List.getD_cons_succ, ↓reduceIte, reduceCtorEq, Nat.reduceEqDiff]); try (first | (with_reducible assumption) | (with_reducible rfl) | (congr 2 <;> omega) | rfl))), by (((try simp -implicitDefEqProofs only [eA_tmp, eA_const, AEnv.get_set, ofA_get, List.getD_cons_zero, List.getD_cons_succ, ↓reduceIte, reduceCtorEq, Nat.reduceEqDiff]); try (first | (with_reducible assumption) | (with_reducible rfl) | (congr 2 <;> omega) | rfl))), rfl, rfl⟩ ?_
  rintro m ρ s' ⟨i, rfl, hi, g0, g3, j1, j2⟩
  (try (simp -implicitDefEqProofs (maxSteps := 2000000) (disch := first | omega | (simp only [vz_push, vz_set, drop_size]; first | done | omega)) only [push_cast, seval, f18N0, f18N1, f18N2, g0, g3])) <;> (repeat' ((first | apply ga_dec | apply ga_ndec | apply cd_dec | apply cd_ndec | apply gd_dec | apply gd_ndec | apply ga_split | apply cd_split | apply gd_split) <;> intro hc <;> try (simp -implicitDefEqProofs (maxSteps := 2000000) (disch := first | omega | (simp only [vz_push, vz_set, drop_size]; first | done | omega)) only [push_cast, seval, f18N0, f18N1, f18N2, hc, g0, g3])))
  · have hil : i < l.length := by omega
    have hx := List.getElem?_eq_getElem hil
    generalize l[i] = x at hx
    (try (simp -implicitDefEqProofs (maxSteps := 2000000) (disch := first | omega | (simp only [vz_push, vz_set, drop_size]; first | done | omega)) only [push_cast, seval, f18N0, f18N1, f18N2, g0, g3, hx, eS])) <;> (repeat' ((first | apply ga_dec | apply ga_ndec | apply cd_dec | apply cd_ndec | apply gd_dec | apply gd_ndec | apply ga_split | apply cd_split | apply gd_split) <;> intro hc <;> try (simp -implicitDefEqProofs (maxSteps := 2000000) (disch := first | omega | (simp only [vz_push, vz_set, drop_size]; first | done | omega)) only [push_cast, seval, f18N0, f18N1, f18N2, hc, g0, g3, hx, eS])))
    refine VC_pure (rrightS_ok hk x) ?_
    have ht := take_snoc hx
    (try (simp -implicitDefEqProofs (maxSteps := 2000000) (disch := first | omega | (simp only [vz_push, vz_set, drop_size]; first | done | omega)) only [push_cast, seval, f18N0, f18N1, f18N2, g0, g3, hx])) <;> (repeat' ((first | apply ga_dec | apply ga_ndec | apply cd_dec | apply cd_ndec | apply gd_dec | apply gd_ndec | apply ga_split | apply cd_split | apply gd_split) <;> intro hc <;> try (simp -implicitDefEqProofs (maxSteps := 2000000) (disch := first | omega | (simp only [vz_push, vz_set, drop_size]; first | done | omega)) only [push_cast, seval, f18N0, f18N1, f18N2, hc, g0, g3, hx])))
    · subst j1
      refine out_bool (by (repeat first | assumption | exact KeepA.refl _ | apply KeepA.push | refine KeepA.set ?_ (by first | omega | (simp only [vz_push, vz_set, drop_size]; omega) | (have h9 := KeepA.size_le (by assumption); (try simp only [vz_push, vz_set, drop_size] at *); omega)) _ | refine KeepA.drop ?_ (by first | omega | (simp only [vz_push, vz_set, drop_size]; omega) | (have h9 := KeepA.size_le (by assumption); (try simp only [vz_push, vz_set, drop_size] at *); omega)) | refine KeepA.trans ?_ (by assumption))) ?_
      rw [eq_comm, Bool.eq_false_iff]
      intro h
      have := List.all_eq_true.1 h x (List.mem_of_getElem? hx)
      rw [this] at hc; cases hc
    · refine ⟨_ - (i + 1), by omega, i + 1, rfl, by omega, ?_⟩ <;> (try simp only [Int.natCast_add, Int.natCast_one, cast_lit, and_true, true_and, eq_self])
      exact ⟨j1, by simp [ht, j2]; simpa using hc⟩
  · subst j1
    have : i = l.length := by omega
    subst this
    rw [List.take_length] at j2
    exact out_bool (by (repeat first | assumption | exact KeepA.refl _ | apply KeepA.push | refine KeepA.set ?_ (by first | omega | (simp only [vz_push, vz_set, drop_size]; omega) | (have h9 := KeepA.size_le (by assumption); (try simp only [vz_push, vz_set, drop_size] at *); omega)) _ | refine KeepA.drop ?_ (by first | omega | (simp only [vz_push, vz_set, drop_size]; omega) | (have h9 := KeepA.size_le (by assumption); (try simp only [vz_push, vz_set, drop_size] at *); omega)) | refine KeepA.trans ?_ (by assumption))) j2.symm
theorem same_ok (a b : List (Int × Int)) (hn : a.length < 1099511627776) : PC (XK k) 57 [LS a, LS b] (.c (.bool (decide (a = b)))) := by
  refine PC_of fun s => ?_
  refine f57_in (hk _ (by decide)) ?_
  (try (simp -implicitDefEqProofs (maxSteps := 2000000) (disch := first | omega | (simp only [vz_push, vz_set, drop_size]; first | done | omega)) only [push_cast, seval, f57N0, f57N1, f57N2])) <;> (repeat' ((first | apply ga_dec | apply ga_ndec | apply cd_dec | apply cd_ndec | apply gd_dec | apply gd_ndec | apply ga_split | apply cd_split | apply gd_split) <;> intro hc <;> try (simp -implicitDefEqProofs (maxSteps := 2000000) (disch := first | omega | (simp only [vz_push, vz_set, drop_size]; first | done | omega)) only [push_cast, seval, f57N0, f57N1, f57N2, hc])))
  · exact out_bool (by (repeat first | assumption | exact KeepA.refl _ | apply KeepA.push | refine KeepA.set ?_ (by first | omega | (simp only [vz_push, vz_set, drop_size]; omega) | (have h9 := KeepA.size_le (by assumption); (try simp only [vz_push, vz_set, drop_size] at *); omega)) _ | refine KeepA.drop ?_ (by first | omega | (simp only [vz_push, vz_set, drop_size]; omega) | (have h9 := KeepA.size_le (by assumption); (try simp only [vz_push, vz_set, drop_size] at *); omega)) | refine KeepA.trans ?_ (by assumption))) (by symm; simp; rintro rfl; exact hc rfl)
  · have hl : a.length = b.length := by omega
    refine VW_iter (fun m ρ s' => ∃ i : Nat, m = a.length - i ∧ i ≤ a.length ∧ ρ.get 0 = LS a ∧ ρ.get 1 = LS b ∧ ρ.get 12 = .c (.int .i64 a.length) ∧ ρ.get 13 = .c (.int .i64 i) ∧ (s' = s) ∧ (a.take i = b.take i)) (a.length) ⟨0, rfl, Nat.zero_le _, by (((try simp -implicitDefEqProofs only [eA_tmp, eA_const, AEnv.get_set, ofA_get, List.getD_cons_zero, List.getD_cons_succ, ↓reduceIte, reduceCtorEq, Nat.reduceEqDiff]); try (first | (with_reducible assumption) | (with_reducible rfl) | (congr 2 <;> omega) | rfl))), by (((try simp -implicitDefEqProofs only [eA_tmp, eA_const, AEnv.get_set, ofA_get, List.getD_cons_zero, List.getD_cons_succ, ↓reduceIte, reduceCtorEq, Nat.reduceEqDiff]); try (first | (with_reducible assumption) | (with_reducible rfl) | (congr 2 <;> omega) | rfl))), by (((try simp -implicitDefEqProofs only [eA_tmp, eA_const, AEnv.get_set, ofA_get, List.getD_cons_zero, List.getD_cons_succ, ↓reduceIte, reduceCtorEq, Nat.reduceEqDiff]); try (first | (with_reducible assumption) | (with_reducible rfl) | (congr 2 <;> omega) | rfl))), by (((try simp -implicitDefEqProofs only [eA_tmp, eA_const, AEnv.get_set, ofA_get, List.getD_cons_zero, List.getD_cons_succ, ↓reduceIte, reduceCtorEq, Nat.reduceEqDiff]); try (first | (with_reducible assumption) | (with_reducible rfl) | (congr 2 <;> omega) | rfl))), rfl, rfl⟩ ?_
    rintro m ρ s' ⟨i, rfl, hi, g0, g1, g12, g13, j1, j2⟩
    subst j1
    (try (simp -implicitDefEqProofs (maxSteps := 2000000) (disch := first | omega | (simp only [vz_push, vz_set, drop_size]; first | done | omega)) only [push_cast, seval, f57N0, f57N1, f57N2, g0, g1, g12, g13])) <;> (repeat' ((first | apply ga_dec | apply ga_ndec | apply cd_dec | apply cd_ndec | apply gd_dec | apply gd_ndec | apply ga_split | apply cd_split | apply gd_split) <;> intro hc <;> try (simp -implicitDefEqProofs (maxSteps := 2000000) (disch := first | omega | (simp only [vz_push, vz_set, drop_size]; first | done | omega)) only [push_cast, seval, f57N0, f57N1, f57N2, hc, g0, g1, g12, g13])))
    · have hil : i < a.length := by omega
      have hx := List.getElem?_eq_getElem hil
      have hy := List.getElem?_eq_getElem (show i < b.length by omega)
      generalize a[i] = x at hx
      generalize b[i] = y at hy
      (try (simp -implicitDefEqProofs (maxSteps := 2000000) (disch := first | omega | (simp only [vz_push, vz_set, drop_size]; first | done | omega)) only [push_cast, seval, f57N0, f57N1, f57N2, g0, g1, g12, g13, hx, hy, eS])) <;> (repeat' ((first | apply ga_dec | apply ga_ndec | apply cd_dec | apply cd_ndec | apply gd_dec | apply gd_ndec | apply ga_split | apply cd_split | apply gd_split) <;> intro hc <;> try (simp -implicitDefEqProofs (maxSteps := 2000000) (disch := first | omega | (simp only [vz_push, vz_set, drop_size]; first | done | omega)) only [push_cast, seval, f57N0, f57N1, f57N2, hc, g0, g1, g12, g13, hx, hy, eS])))
      · exact out_bool (by (repeat first | assumption | exact KeepA.refl _ | apply KeepA.push | refine KeepA.set ?_ (by first | omega | (simp only [vz_push, vz_set, drop_size]; omega) | (have h9 := KeepA.size_le (by assumption); (try simp only [vz_push, vz_set, drop_size] at *); omega)) _ | refine KeepA.drop ?_ (by first | omega | (simp only [vz_push, vz_set, drop_size]; omega) | (have h9 := KeepA.size_le (by assumption); (try simp only [vz_push, vz_set, drop_size] at *); omega)) | refine KeepA.trans ?_ (by assumption))) (by symm; rw [decide_eq_false_iff_not]; rintro rfl; rw [hx] at hy; cases hy; simp at hc)
      · refine ⟨_ - (i + 1), by omega, i + 1, rfl, by omega, ?_⟩ <;> (try simp only [Int.natCast_add, Int.natCast_one, cast_lit, and_true, true_and, eq_self])
        rw [take_snoc hx, take_snoc hy, j2]
        simp at hc
        rw [Prod.ext hc.1 hc.2]
    · have : i = a.length := by omega
      subst this
      rw [List.take_length, hl, List.take_length] at j2
      exact out_bool (by (repeat first | assumption | exact KeepA.refl _ | apply KeepA.push | refine KeepA.set ?_ (by first | omega | (simp only [vz_push, vz_set, drop_size]; omega) | (have h9 := KeepA.size_le (by assumption); (try simp only [vz_push, vz_set, drop_size] at *); omega)) _ | refine KeepA.drop ?_ (by first | omega | (simp only [vz_push, vz_set, drop_size]; omega) | (have h9 := KeepA.size_le (by assumption); (try simp only [vz_push, vz_set, drop_size] at *); omega)) | refine KeepA.trans ?_ (by assumption))) (by symm; exact decide_eq_true j2)
theorem rsame_ok (a b : List (Int × Int)) (hn : a.length < 1099511627776) : PC (XK k) 21 [LS a, LS b] (.c (.bool (decide (a = b)))) := by
  refine PC_of fun s => ?_
  refine f21_in (hk _ (by decide)) ?_
  (try (simp -implicitDefEqProofs (maxSteps := 2000000) (disch := first | omega | (simp only [vz_push, vz_set, drop_size]; first | done | omega)) only [push_cast, seval, f21N0, f21N1, f21N2])) <;> (repeat' ((first | apply ga_dec | apply ga_ndec | apply cd_dec | apply cd_ndec | apply gd_dec | apply gd_ndec | apply ga_split | apply cd_split | apply gd_split) <;> intro hc <;> try (simp -implicitDefEqProofs (maxSteps := 2000000) (disch := first | omega | (simp only [vz_push, vz_set, drop_size]; first | done | omega)) only [push_cast, seval, f21N0, f21N1, f21N2, hc])))
  · exact out_bool (by (repeat first | assumption | exact KeepA.refl _ | apply KeepA.push | refine KeepA.set ?_ (by first | omega | (simp only [vz_push, vz_set, drop_size]; omega) | (have h9 := KeepA.size_le (by assumption); (try simp only [vz_push, vz_set, drop_size] at *); omega)) _ | refine KeepA.drop ?_ (by first | omega | (simp only [vz_push, vz_set, drop_size]; omega) | (have h9 := KeepA.size_le (by assumption); (try simp only [vz_push, vz_set, drop_size] at *); omega)) | refine KeepA.trans ?_ (by assumption))) (by symm; simp; rintro rfl; exact hc rfl)
  · have hl : a.length = b.length := by omega
    refine VW_iter (fun m ρ s' => ∃ i : Nat, m = a.length - i ∧ i ≤ a.length ∧ ρ.get 0 = LS a ∧ ρ.get 1 = LS b ∧ ρ.get 5 = .c (.int .i64 i) ∧ (s' = s) ∧ (a.take i = b.take i)) (a.length) ⟨0, rfl, Nat.zero_le _, by (((try simp -implicitDefEqProofs only [eA_tmp, eA_const, AEnv.get_set, ofA_get, List.getD_cons_zero, List.getD_cons_succ, ↓reduceIte, reduceCtorEq, Nat.reduceEqDiff]); try (first | (with_reducible assumption) | (with_reducible rfl) | (congr 2 <;> omega) | rfl))), by (((try simp -implicitDefEqProofs only [eA_tmp, eA_const, AEnv.get_set, ofA_get, List.getD_cons_zero, List.getD_cons_succ, ↓reduceIte, reduceCtorEq, Nat.reduceEqDiff]); try (first | (with_reducible assumption) | (with_reducible rfl) | (congr 2 <;> omega) | rfl))), by (((try simp -implicitDefEqProofs only [eA_tmp, eA_const, AEnv.get_set, ofA_get, List.getD_cons_zero, List.getD_cons_succ, ↓reduceIte, reduceCtorEq, Nat.reduceEqDiff]); try (first | (with_reducible assumption) | (with_reducible rfl) | (congr 2 <;> omega) | rfl))), rfl, rfl⟩ ?_
    rintro m ρ s' ⟨i, rfl, hi, g0, g1, g5, j1, j2⟩
    subst j1
    (try (simp -implicitDefEqProofs (maxSteps := 2000000) (disch := first | omega | (simp only [vz_push, vz_set, drop_size]; first | done | omega)) only [push_cast, seval, f21N0, f21N1, f21N2, g0, g1, g5])) <;> (repeat' ((first | apply ga_dec | apply ga_ndec | apply cd_dec | apply cd_ndec | apply gd_dec | apply gd_ndec | apply ga_split | apply cd_split | apply gd_split) <;> intro hc <;> try (simp -implicitDefEqProofs (maxSteps := 2000000) (disch := first | omega | (simp only [vz_push, vz_set, drop_size]; first | done | omega)) only [push_cast, seval, f21N0, f21N1, f21N2, hc, g0, g1, g5])))
    · have hil : i < a.length := by omega
      have hx := List.getElem?_eq_getElem hil
      have hy := List.getElem?_eq_getElem (show i < b.length by omega)
      generalize a[i] = x at hx
      generalize b[i] = y at hy
      (try (simp -implicitDefEqProofs (maxSteps := 2000000) (disch := first | omega | (simp only [vz_push, vz_set, drop_size]; first | done | omega)) only [push_cast, seval, f21N0, f21N1, f21N2, g0, g1, g5, hx, hy, eS])) <;> (repeat' ((first | apply ga_dec | apply ga_ndec | apply cd_dec | apply cd_ndec | apply gd_dec | apply gd_ndec | apply ga_split | apply cd_split | apply gd_split) <;> intro hc <;> try (simp -implicitDefEqProofs (maxSteps := 2000000) (disch := first | omega | (simp only [vz_push, vz_set, drop_size]; first | done | omega)) only [push_cast, seval, f21N0, f21N1, f21N2, hc, g0, g1, g5, hx, hy, eS])))
      · exact out_bool (by (repeat first | assumption | exact KeepA.refl _ | apply KeepA.push | refine KeepA.set ?_ (by first | omega | (simp only [vz_push, vz_set, drop_size]; omega) | (have h9 := KeepA.size_le (by assumption); (try simp only [vz_push, vz_set, drop_size] at *); omega)) _ | refine KeepA.drop ?_ (by first | omega | (simp only [vz_push, vz_set, drop_size]; omega) | (have h9 := KeepA.size_le (by assumption); (try simp only [vz_push, vz_set, drop_size] at *); omega)) | refine KeepA.trans ?_ (by assumption))) (by symm; rw [decide_eq_false_iff_not]; rintro rfl; rw [hx] at hy; cases hy; simp at hc)
      · refine ⟨_ - (i + 1), by omega, i + 1, rfl, by omega, ?_⟩ <;> (try simp only [Int.natCast_add, Int.natCast_one, cast_lit, and_true, true_and, eq_self])
        rw [take_snoc hx, take_snoc hy, j2]
        simp at hc
        rw [Prod.ext hc.1 hc.2]
    · have : i = a.length := by omega
      subst this
      rw [List.take_length, hl, List.take_length] at j2
      exact out_bool (by (repeat first | assumption | exact KeepA.refl _ | apply KeepA.push | refine KeepA.set ?_ (by first | omega | (simp only [vz_push, vz_set, drop_size]; omega) | (have h9 := KeepA.size_le (by assumption); (try simp only [vz_push, vz_set, drop_size] at *); omega)) _ | refine KeepA.drop ?_ (by first | omega | (simp only [vz_push, vz_set, drop_size]; omega) | (have h9 := KeepA.size_le (by assumption); (try simp only [vz_push, vz_set, drop_size] at *); omega)) | refine KeepA.trans ?_ (by assumption))) (by symm; exact decide_eq_true j2)
omit hk in
theorem flatsS {n : Nat} (l : List (Int × Int)) (h : l.length < 1000000) (hn : n < 1000000) : (l.map eS).flatten.length = l.length * 2 ∧ (l.map eS).flatten.all oneA = true ∧ roomOk (n + l.length) 16 = true :=
  ⟨flat_len_eS l, ones_map fun _ => rfl, room_ok ⟨by omega, by omega⟩⟩
theorem join_gr (a b : List (Int × Int)) (ha : a.length < 1000000) (hb : b.length < 1000000) (s : VS) : VC (XK k) 63 [LS a, LS b] s fun v s' => KeepA s s' ∧ Gr s s' 29 2 v (a.length + b.length) ((a ++ b).map eS).flatten := by
  refine f63_in (hk _ (by decide)) ?_
  (try (simp -implicitDefEqProofs (maxSteps := 2000000) (disch := first | omega | (simp only [vz_push, vz_set, drop_size]; first | done | omega)) only [push_cast, seval, f63N0])) <;> (repeat' ((first | apply ga_dec | apply ga_ndec | apply cd_dec | apply cd_ndec | apply gd_dec | apply gd_ndec | apply ga_split | apply cd_split | apply gd_split) <;> intro hc <;> try (simp -implicitDefEqProofs (maxSteps := 2000000) (disch := first | omega | (simp only [vz_push, vz_set, drop_size]; first | done | omega)) only [push_cast, seval, f63N0, hc])))
  obtain ⟨q1, q2, q3⟩ := flatsS a ha (n := 0) (by omega)
  refine Gr.step (.lit (sz := 2) s.size 0 [] 29 (gp_eq rfl) (Nat.le_refl _) rfl) (by (repeat first | assumption | exact KeepA.refl _ | apply KeepA.push | refine KeepA.set ?_ (by first | omega | (simp only [vz_push, vz_set, drop_size]; omega) | (have h9 := KeepA.size_le (by assumption); (try simp only [vz_push, vz_set, drop_size] at *); omega)) _ | refine KeepA.drop ?_ (by first | omega | (simp only [vz_push, vz_set, drop_size]; omega) | (have h9 := KeepA.size_le (by assumption); (try simp only [vz_push, vz_set, drop_size] at *); omega)) | refine KeepA.trans ?_ (by assumption))) rfl q1 q2 q3 ?_
  intro v s1 hg _ hkp
  (try (simp -implicitDefEqProofs (maxSteps := 2000000) (disch := first | omega | (simp only [vz_push, vz_set, drop_size]; first | done | omega)) only [push_cast, seval, f63N0])) <;> (repeat' ((first | apply ga_dec | apply ga_ndec | apply cd_dec | apply cd_ndec | apply gd_dec | apply gd_ndec | apply ga_split | apply cd_split | apply gd_split) <;> intro hc <;> try (simp -implicitDefEqProofs (maxSteps := 2000000) (disch := first | omega | (simp only [vz_push, vz_set, drop_size]; first | done | omega)) only [push_cast, seval, f63N0, hc])))
  obtain ⟨q1, q2, q3⟩ := flatsS b hb (n := 0 + a.length) (by omega)
  refine Gr.step hg hkp rfl q1 q2 q3 ?_
  intro v s1 hg _ hkp
  (try (simp -implicitDefEqProofs (maxSteps := 2000000) (disch := first | omega | (simp only [vz_push, vz_set, drop_size]; first | done | omega)) only [push_cast, seval, f63N0])) <;> (repeat' ((first | apply ga_dec | apply ga_ndec | apply cd_dec | apply cd_ndec | apply gd_dec | apply gd_ndec | apply ga_split | apply cd_split | apply gd_split) <;> intro hc <;> try (simp -implicitDefEqProofs (maxSteps := 2000000) (disch := first | omega | (simp only [vz_push, vz_set, drop_size]; first | done | omega)) only [push_cast, seval, f63N0, hc])))
  rw [List.nil_append, ← List.flatten_append, ← List.map_append, Nat.zero_add] at hg
  exact ⟨hkp, hg⟩
theorem join_ok (a b : List (Int × Int)) (ha : a.length < 1000000) (hb : b.length < 1000000) : PC (XK k) 63 [LS a, LS b] (LS (a ++ b)) :=
  PC_of fun s => VC_mono (join_gr hk a b ha hb s) fun v s' ⟨h1, h2⟩ => h2.outm h1 (fun _ => rfl) firm_eS (by omega)
/-- Lists of lists of signs. -/
def eLS (l : List (Int × Int)) : List AV := [LS l]
@[reducible] def LLS (ls : List (List (Int × Int))) : AV := .lst 1 (ls.map eLS)
theorem grow_ok (n : Nat) (hn : n < 1000000) (s : VS) : VC (XK k) 94 [.c (.slice none 0 0), .c (.int .i64 n)] s fun v s' => KeepA s s' ∧ (v = .c (.slice none 0 0) ∧ n = 0 ∨ ∃ b cs, v = .sl ⟨b, 0, none⟩ 0 (capO n) ∧ s'.get b = some (.own ⟨cs, 29, 0, 0, false⟩) ∧ s.size ≤ b ∧ cs.length = n * 2) := by
  refine f94_in (hk _ (by decide)) ?_
  (try (simp -implicitDefEqProofs (maxSteps := 2000000) (disch := first | omega | (simp only [vz_push, vz_set, drop_size]; first | done | omega)) only [push_cast, seval, f94N0, f94N1, cutE])) <;> (repeat' ((first | apply ga_dec | apply ga_ndec | apply cd_dec | apply cd_ndec | apply gd_dec | apply gd_ndec | apply ga_split | apply cd_split | apply gd_split) <;> intro hc <;> try (simp -implicitDefEqProofs (maxSteps := 2000000) (disch := first | omega | (simp only [vz_push, vz_set, drop_size]; first | done | omega)) only [push_cast, seval, f94N0, f94N1, hc, cutE])))
  · exfalso; omega
  · have hr : roomOk n 16 = true := room_ok ⟨by omega, by omega⟩
    have h0 : ¬ n = 0 := by omega
    rw [if_pos ⟨by omega, hr⟩]
    simp -implicitDefEqProofs (maxSteps := 2000000) (disch := first | omega | (simp only [vz_push, vz_set, drop_size]; first | done | omega)) only [push_cast, seval, f94N0, f94N1, appendToA, if_neg h0, if_pos hr]
    refine ⟨by (repeat first | assumption | exact KeepA.refl _ | apply KeepA.push | refine KeepA.set ?_ (by first | omega | (simp only [vz_push, vz_set, drop_size]; omega) | (have h9 := KeepA.size_le (by assumption); (try simp only [vz_push, vz_set, drop_size] at *); omega)) _ | refine KeepA.drop ?_ (by first | omega | (simp only [vz_push, vz_set, drop_size]; omega) | (have h9 := KeepA.size_le (by assumption); (try simp only [vz_push, vz_set, drop_size] at *); omega)) | refine KeepA.trans ?_ (by assumption)), .inr ⟨s.size, _, rfl, gp_eq rfl, Nat.le_refl _, ?_⟩⟩
    rw [List.length_map, reps_len]; rfl
  · exact ⟨KeepA.refl _, .inl (by omega)⟩
omit hk in
/-- A slice with room behind it: appended to in place. -/
theorem Gr.room {s0 s : VS} {te : Ty} {e m n N b sz : Nat} {ws cs zs : List AV} {k : AV → VS → Prop} (hg : s.get b = some (.own ⟨cs ++ zs, e, 0, 0, false⟩)) (hb : s0.size ≤ b) (hk : KeepA s0 s) (hz : te.size = sz) (hc : cs.length = n * sz) (hl : (cs ++ zs).length = N * sz) (hw : ws.length = m * sz) (ho : ws.all oneA = true) (hN : n + m ≤ N)
    (hK : ∀ s', s'.get b = some (.own ⟨cs ++ ws ++ zs.drop (m * sz), e, 0, 0, false⟩) → KeepA s0 s' → s'.size = s.size → (∀ c, c ≠ b → s'.get c = s.get c) → k (.sl ⟨b, 0, none⟩ (n + m) (capO N)) s') : contA (appendToA te e m ws (.sl ⟨b, 0, none⟩ n (capO N)) s) k := by
  by_cases hm : m = 0
  · subst hm
    have hw0 : ws = [] := List.eq_nil_of_length_eq_zero (by omega)
    subst hw0
    have : appendToA te e 0 [] (.sl ⟨b, 0, none⟩ n (capO N)) s = some (.sl ⟨b, 0, none⟩ n (capO N), s) := by simp [appendToA]
    rw [this, ct_some]
    exact hK s (by simpa using hg) hk rfl fun _ _ => rfl
  · have h1 := VS.lt_of_get hg
    have hwl : n * sz + m * sz ≤ N * sz := by rw [← Nat.add_mul]; exact Nat.mul_le_mul_right _ hN
    have hwr : s.wr (Addr.fwd ⟨b, 0, none⟩ (n * te.size)) ws = some (s.set b (.own ⟨overA (cs ++ zs) (n * sz) ws, e, 0, 0, false⟩)) := by
      rw [fwd_mk, wr_mkA, hg, wv_own, hz, Nat.zero_add]
      exact if_pos ⟨rfl, by rw [hl, hw]; exact hwl, Nat.zero_le _, rfl, ho⟩
    have ha : appendToA te e m ws (.sl ⟨b, 0, none⟩ n (capO N)) s = some (.sl ⟨b, 0, none⟩ (n + m) (capO N), s.set b (.own ⟨overA (cs ++ zs) (n * sz) ws, e, 0, 0, false⟩)) := by
      simp only [appendToA, if_neg hm, capO_half, if_pos hN, hwr, Option.map_some]
    rw [ha, ct_some]
    refine hK _ ?_ (hk.set hb _) (vz_set _ _ _) fun c hne => gs_ne hne
    rw [gs_eq rfl h1, over_fill hc, hw]
theorem concat_gr (ls : List (List (Int × Int))) (hl : ls.length < 1000) (hn : ls.flatten.length < 1000000) (s : VS) : VC (XK k) 61 [LLS ls] s fun v s' => KeepA s s' ∧ (v = .c (.slice none 0 0) ∧ ls.flatten = [] ∨ ∃ b, v = .sl ⟨b, 0, none⟩ ls.flatten.length (capO ls.flatten.length) ∧ s'.get b = some (.own ⟨(ls.flatten.map eS).flatten, 29, 0, 0, false⟩) ∧ s.size ≤ b) := by
  refine f61_in (hk _ (by decide)) ?_
  have hle : ∀ j, (ls.take j).flatten.length ≤ ls.flatten.length := fun j => by
    have : ls.flatten = (ls.take j).flatten ++ (ls.drop j).flatten := by rw [← List.flatten_append, List.take_append_drop]
    rw [this, List.length_append]; omega
  (try (simp -implicitDefEqProofs (maxSteps := 2000000) (disch := first | omega | (simp only [vz_push, vz_set, drop_size]; first | done | omega)) only [push_cast, seval, f61N0, f61N1, f61N2, f61N3, f61N4])) <;> (repeat' ((first | apply ga_dec | apply ga_ndec | apply cd_dec | apply cd_ndec | apply gd_dec | apply gd_ndec | apply ga_split | apply cd_split | apply gd_split) <;> intro hc <;> try (simp -implicitDefEqProofs (maxSteps := 2000000) (disch := first | omega | (simp only [vz_push, vz_set, drop_size]; first | done | omega)) only [push_cast, seval, f61N0, f61N1, f61N2, f61N3, f61N4, hc])))
  refine VW_iter (fun m ρ s' => ∃ i : Nat, m = ls.length - i ∧ i ≤ ls.length ∧ ρ.get 0 = LLS ls ∧ ρ.get 3 = .c (.int .i64 (ls.take i).flatten.length) ∧ ρ.get 9 = LLS ls ∧ ρ.get 10 = .c (.int .i64 ls.length) ∧ ρ.get 11 = .c (.int .i64 i) ∧ (s' = s)) (ls.length) ⟨0, rfl, Nat.zero_le _, by (((try simp -implicitDefEqProofs only [eA_tmp, eA_const, AEnv.get_set, ofA_get, List.getD_cons_zero, List.getD_cons_succ, ↓reduceIte, reduceCtorEq, Nat.reduceEqDiff]); try (first | (with_reducible assumption) | (with_reducible rfl) | (congr 2 <;> omega) | rfl))), by (((try simp -implicitDefEqProofs only [eA_tmp, eA_const, AEnv.get_set, ofA_get, List.getD_cons_zero, List.getD_cons_succ, ↓reduceIte, reduceCtorEq, Nat.reduceEqDiff]); try (first | (with_reducible assumption) | (with_reducible rfl) | (congr 2 <;> omega) | rfl))), by (((try simp -implicitDefEqProofs only [eA_tmp, eA_const, AEnv.get_set, ofA_get, List.getD_cons_zero, List.getD_cons_succ, ↓reduceIte, reduceCtorEq, Nat.reduceEqDiff]); try (first | (with_reducible assumption) | (with_reducible rfl) | (congr 2 <;> omega) | rfl))), by (((try simp -implicitDefEqProofs only [eA_tmp, eA_const, AEnv.get_set, ofA_get, List.getD_cons_zero, List.getD_cons_succ, ↓reduceIte, reduceCtorEq, Nat.reduceEqDiff]); try (first | (with_reducible assumption) | (with_reducible rfl) | (congr 2 <;> omega) | rfl))), by (((try simp -implicitDefEqProofs only [eA_tmp, eA_const, AEnv.get_set, ofA_get, List.getD_cons_zero, List.getD_cons_succ, ↓reduceIte, reduceCtorEq, Nat.reduceEqDiff]); try (first | (with_reducible assumption) | (with_reducible rfl) | (congr 2 <;> omega) | rfl))), rfl⟩ ?_
  rintro m ρ s' ⟨i, rfl, hi, g0, g3, g9, g10, g11, j1⟩
  subst j1
  simp -implicitDefEqProofs (maxSteps := 2000000) (disch := first | omega | (simp only [vz_push, vz_set, drop_size]; first | done | omega)) only [push_cast, seval, f61N0, f61N1, f61N2, f61N3, f61N4, g0, g3, g9, g10, g11]
  refine cd_dec (fun hc => ?_) (fun hc => ?_)
  · have hx := List.getElem?_eq_getElem (show i < ls.length by omega)
    generalize ls[i] = x at hx
    have hj := hle (i + 1)
    have ht := take_snoc hx
    rw [ht, List.flatten_append, List.length_append] at hj
    simp only [List.flatten_cons, List.flatten_nil, List.append_nil] at hj
    (try (simp -implicitDefEqProofs (maxSteps := 2000000) (disch := first | omega | (simp only [vz_push, vz_set, drop_size]; first | done | omega)) only [push_cast, seval, f61N0, f61N1, f61N2, f61N3, f61N4, g0, g3, g9, g10, g11, hx, eLS])) <;> (repeat' ((first | apply ga_dec | apply ga_ndec | apply cd_dec | apply cd_ndec | apply gd_dec | apply gd_ndec | apply ga_split | apply cd_split | apply gd_split) <;> intro hc <;> try (simp -implicitDefEqProofs (maxSteps := 2000000) (disch := first | omega | (simp only [vz_push, vz_set, drop_size]; first | done | omega)) only [push_cast, seval, f61N0, f61N1, f61N2, f61N3, f61N4, hc, g0, g3, g9, g10, g11, hx, eLS])))
    · exfalso; omega
    · refine ⟨_, by omega, i + 1, rfl, by omega, ?_⟩
      rw [ht]
      simp
  have : i = ls.length := by omega
  subst this
  rw [List.take_length] at g3
  simp -implicitDefEqProofs (maxSteps := 2000000) (disch := first | omega | (simp only [vz_push, vz_set, drop_size]; first | done | omega)) only [push_cast, seval, f61N0, f61N1, f61N2, f61N3, f61N4, g0, g3, g9, g10, g11]
  refine VC_mono (grow_ok hk _ hn _) ?_
  rintro v s1 ⟨hkp, hv⟩
  simp -implicitDefEqProofs (maxSteps := 2000000) (disch := first | omega | (simp only [vz_push, vz_set, drop_size]; first | done | omega)) only [push_cast, seval, f61N0, f61N1, f61N2, f61N3, f61N4, g0, g3, g9, g10, g11]
  rcases hv with ⟨rfl, h0⟩ | ⟨b, zs, rfl, hg, hb, hlen⟩
  · have hall : ∀ x ∈ ls, x = [] := by
      have := List.eq_nil_of_length_eq_zero h0
      exact List.flatten_eq_nil_iff.1 this
    refine VW_iter (fun m ρ t => ∃ i : Nat, m = ls.length - i ∧ i ≤ ls.length ∧ ρ.get 6 = .c (.slice none 0 0) ∧ ρ.get 25 = LLS ls ∧ ρ.get 26 = .c (.int .i64 ls.length) ∧ ρ.get 27 = .c (.int .i64 i) ∧ KeepA s' t) ls.length ⟨0, rfl, by omega, by (((try simp -implicitDefEqProofs only [eA_tmp, eA_const, AEnv.get_set, ofA_get, List.getD_cons_zero, List.getD_cons_succ, ↓reduceIte, reduceCtorEq, Nat.reduceEqDiff]); try (first | (with_reducible assumption) | (with_reducible rfl) | (congr 2 <;> omega) | rfl))), by (((try simp -implicitDefEqProofs only [eA_tmp, eA_const, AEnv.get_set, ofA_get, List.getD_cons_zero, List.getD_cons_succ, ↓reduceIte, reduceCtorEq, Nat.reduceEqDiff]); try (first | (with_reducible assumption) | (with_reducible rfl) | (congr 2 <;> omega) | rfl))), by (((try simp -implicitDefEqProofs only [eA_tmp, eA_const, AEnv.get_set, ofA_get, List.getD_cons_zero, List.getD_cons_succ, ↓reduceIte, reduceCtorEq, Nat.reduceEqDiff]); try (first | (with_reducible assumption) | (with_reducible rfl) | (congr 2 <;> omega) | rfl))), by (((try simp -implicitDefEqProofs only [eA_tmp, eA_const, AEnv.get_set, ofA_get, List.getD_cons_zero, List.getD_cons_succ, ↓reduceIte, reduceCtorEq, Nat.reduceEqDiff]); try (first | (with_reducible assumption) | (with_reducible rfl) | (congr 2 <;> omega) | rfl))), hkp⟩ ?_
    rintro m ρ t ⟨i, rfl, hi, g6, g25, g26, g27, hkt⟩
    simp -implicitDefEqProofs (maxSteps := 2000000) (disch := first | omega | (simp only [vz_push, vz_set, drop_size]; first | done | omega)) only [push_cast, seval, f61N0, f61N1, f61N2, f61N3, f61N4, g6, g25, g26, g27]
    refine cd_dec (fun hc => ?_) (fun hc => ?_)
    · have hx := List.getElem?_eq_getElem (show i < ls.length by omega)
      have hx0 := hall _ (List.getElem_mem (show i < ls.length by omega))
      rw [hx0] at hx
      simp -implicitDefEqProofs (maxSteps := 2000000) (disch := first | omega | (simp only [vz_push, vz_set, drop_size]; first | done | omega)) only [push_cast, seval, f61N0, f61N1, f61N2, f61N3, f61N4, g6, g25, g26, g27, hx, eLS, appendToA]
      refine ⟨ls.length - (i + 1), by omega, i + 1, rfl, by omega, ?_⟩
      exact ⟨by congr 2, hkt⟩
    · simp -implicitDefEqProofs (maxSteps := 2000000) (disch := first | omega | (simp only [vz_push, vz_set, drop_size]; first | done | omega)) only [push_cast, seval, f61N0, f61N1, f61N2, f61N3, f61N4, g6, g25, g26, g27]
      first | exact ⟨hkt, .inl ⟨rfl, List.eq_nil_of_length_eq_zero h0⟩⟩ | exact ⟨hkt, .inl (List.eq_nil_of_length_eq_zero h0)⟩
  · refine VW_iter (fun m ρ t => ∃ (i : Nat) (zs : List AV), m = ls.length - i ∧ i ≤ ls.length ∧ ρ.get 6 = .sl ⟨b, 0, none⟩ (ls.take i).flatten.length (capO ls.flatten.length) ∧ ρ.get 25 = LLS ls ∧ ρ.get 26 = .c (.int .i64 ls.length) ∧ ρ.get 27 = .c (.int .i64 i) ∧ KeepA s' t ∧ t.get b = some (.own ⟨((ls.take i).flatten.map eS).flatten ++ zs, 29, 0, 0, false⟩) ∧ (((ls.take i).flatten.map eS).flatten ++ zs).length = ls.flatten.length * 2) ls.length
      ⟨0, zs, rfl, by omega, by (((try simp -implicitDefEqProofs only [eA_tmp, eA_const, AEnv.get_set, ofA_get, List.getD_cons_zero, List.getD_cons_succ, ↓reduceIte, reduceCtorEq, Nat.reduceEqDiff]); try (first | (with_reducible assumption) | (with_reducible rfl) | (congr 2 <;> omega) | rfl))), by (((try simp -implicitDefEqProofs only [eA_tmp, eA_const, AEnv.get_set, ofA_get, List.getD_cons_zero, List.getD_cons_succ, ↓reduceIte, reduceCtorEq, Nat.reduceEqDiff]); try (first | (with_reducible assumption) | (with_reducible rfl) | (congr 2 <;> omega) | rfl))), by (((try simp -implicitDefEqProofs only [eA_tmp, eA_const, AEnv.get_set, ofA_get, List.getD_cons_zero, List.getD_cons_succ, ↓reduceIte, reduceCtorEq, Nat.reduceEqDiff]); try (first | (with_reducible assumption) | (with_reducible rfl) | (congr 2 <;> omega) | rfl))), by (((try simp -implicitDefEqProofs only [eA_tmp, eA_const, AEnv.get_set, ofA_get, List.getD_cons_zero, List.getD_cons_succ, ↓reduceIte, reduceCtorEq, Nat.reduceEqDiff]); try (first | (with_reducible assumption) | (with_reducible rfl) | (congr 2 <;> omega) | rfl))), hkp, by simpa using hg, by simpa using hlen⟩ ?_
    rintro m ρ t ⟨i, zs', rfl, hi, g6, g25, g26, g27, hkt, hgt, hlt⟩
    simp -implicitDefEqProofs (maxSteps := 2000000) (disch := first | omega | (simp only [vz_push, vz_set, drop_size]; first | done | omega)) only [push_cast, seval, f61N0, f61N1, f61N2, f61N3, f61N4, g6, g25, g26, g27]
    refine cd_dec (fun hc => ?_) (fun hc => ?_)
    · have hx := List.getElem?_eq_getElem (show i < ls.length by omega)
      generalize ls[i] = x at hx
      have ht := take_snoc hx
      have hj := hle (i + 1)
      rw [ht, List.flatten_append, List.length_append] at hj
      simp only [List.flatten_cons, List.flatten_nil, List.append_nil] at hj
      simp -implicitDefEqProofs (maxSteps := 2000000) (disch := first | omega | (simp only [vz_push, vz_set, drop_size]; first | done | omega)) only [push_cast, seval, f61N0, f61N1, f61N2, f61N3, f61N4, g6, g25, g26, g27, hx, eLS]
      obtain ⟨q1, q2, q3⟩ := flatsS x (by omega) (n := 0) (by omega)
      refine Gr.room hgt hb hkt rfl (flat_len_eS _) hlt q1 q2 hj ?_
      intro t' h1 h2 h3 h4
      simp -implicitDefEqProofs (maxSteps := 2000000) (disch := first | omega | (simp only [vz_push, vz_set, drop_size]; first | done | omega)) only [push_cast, seval, f61N0, f61N1, f61N2, f61N3, f61N4, g6, g25, g26, g27]
      refine ⟨_, by omega, i + 1, zs'.drop (x.length * 2), rfl, by omega, ?_⟩
      have e1 : (ls.take (i + 1)).flatten = (ls.take i).flatten ++ x := by rw [ht]; simp
      rw [e1, List.map_append, List.flatten_append, List.length_append]
      refine ⟨rfl, by congr 2, h2, h1, ?_⟩
      simp only [List.length_append, flat_len_eS, List.length_drop] at hlt ⊢
      omega
    · have : i = ls.length := by omega
      subst this
      rw [List.take_length] at g6 hgt hlt
      have : zs' = [] := List.eq_nil_of_length_eq_zero (by rw [List.length_append, flat_len_eS] at hlt; omega)
      subst this
      rw [List.append_nil] at hgt
      simp -implicitDefEqProofs (maxSteps := 2000000) (disch := first | omega | (simp only [vz_push, vz_set, drop_size]; first | done | omega)) only [push_cast, seval, f61N0, f61N1, f61N2, f61N3, f61N4, g6, g25, g26, g27]
      exact ⟨hkt, .inr ⟨b, rfl, hgt, hb⟩⟩
theorem concat_ok (ls : List (List (Int × Int))) (hl : ls.length < 1000) (hn : ls.flatten.length < 1000000) : PC (XK k) 61 [LLS ls] (LS ls.flatten) :=
  PC_of fun s => VC_mono (concat_gr hk ls hl hn s) fun v s' ⟨h1, h2⟩ => by
    rcases h2 with ⟨rfl, h⟩ | ⟨b, rfl, hg, hb⟩
    · exact out_nil h1 (by rw [h]; rfl)
    · exact (Gr.row (e := 29) (sz := 2) b none _ _ hg hb (flat_len_eS _)).outm h1 (fun _ => rfl) firm_eS (by omega)
theorem clone_ok (a : List (Int × Int)) (ha : a.length < 1000000) : PC (XK k) 76 [LS a] (LS a) := by
  refine PC_of fun s => ?_
  refine f76_in (hk _ (by decide)) ?_
  (try (simp -implicitDefEqProofs (maxSteps := 2000000) (disch := first | omega | (simp only [vz_push, vz_set, drop_size]; first | done | omega)) only [push_cast, seval, f76N0, f76N1])) <;> (repeat' ((first | apply ga_dec | apply ga_ndec | apply cd_dec | apply cd_ndec | apply gd_dec | apply gd_ndec | apply ga_split | apply cd_split | apply gd_split) <;> intro hc <;> try (simp -implicitDefEqProofs (maxSteps := 2000000) (disch := first | omega | (simp only [vz_push, vz_set, drop_size]; first | done | omega)) only [push_cast, seval, f76N0, f76N1, hc])))
  refine ⟨fun h => ?_, ?_⟩
  · (try (simp -implicitDefEqProofs (maxSteps := 2000000) (disch := first | omega | (simp only [vz_push, vz_set, drop_size]; first | done | omega)) only [push_cast, seval, f76N0, f76N1])) <;> (repeat' ((first | apply ga_dec | apply ga_ndec | apply cd_dec | apply cd_ndec | apply gd_dec | apply gd_ndec | apply ga_split | apply cd_split | apply gd_split) <;> intro hc <;> try (simp -implicitDefEqProofs (maxSteps := 2000000) (disch := first | omega | (simp only [vz_push, vz_set, drop_size]; first | done | omega)) only [push_cast, seval, f76N0, f76N1, hc])))
    exact out_nil (by (repeat first | assumption | exact KeepA.refl _ | apply KeepA.push | refine KeepA.set ?_ (by first | omega | (simp only [vz_push, vz_set, drop_size]; omega) | (have h9 := KeepA.size_le (by assumption); (try simp only [vz_push, vz_set, drop_size] at *); omega)) _ | refine KeepA.drop ?_ (by first | omega | (simp only [vz_push, vz_set, drop_size]; omega) | (have h9 := KeepA.size_le (by assumption); (try simp only [vz_push, vz_set, drop_size] at *); omega)) | refine KeepA.trans ?_ (by assumption))) h
  · (try (simp -implicitDefEqProofs (maxSteps := 2000000) (disch := first | omega | (simp only [vz_push, vz_set, drop_size]; first | done | omega)) only [push_cast, seval, f76N0, f76N1])) <;> (repeat' ((first | apply ga_dec | apply ga_ndec | apply cd_dec | apply cd_ndec | apply gd_dec | apply gd_ndec | apply ga_split | apply cd_split | apply gd_split) <;> intro hc <;> try (simp -implicitDefEqProofs (maxSteps := 2000000) (disch := first | omega | (simp only [vz_push, vz_set, drop_size]; first | done | omega)) only [push_cast, seval, f76N0, f76N1, hc])))
    obtain ⟨q1, q2, q3⟩ := flatsS a ha (n := 0) (by omega)
    refine Gr.step (.lit (sz := 2) s.size 0 [] 29 (gp_eq rfl) (Nat.le_refl _) rfl) (by (repeat first | assumption | exact KeepA.refl _ | apply KeepA.push | refine KeepA.set ?_ (by first | omega | (simp only [vz_push, vz_set, drop_size]; omega) | (have h9 := KeepA.size_le (by assumption); (try simp only [vz_push, vz_set, drop_size] at *); omega)) _ | refine KeepA.drop ?_ (by first | omega | (simp only [vz_push, vz_set, drop_size]; omega) | (have h9 := KeepA.size_le (by assumption); (try simp only [vz_push, vz_set, drop_size] at *); omega)) | refine KeepA.trans ?_ (by assumption))) rfl q1 q2 q3 ?_
    intro v s1 hg _ hkp
    (try (simp -implicitDefEqProofs (maxSteps := 2000000) (disch := first | omega | (simp only [vz_push, vz_set, drop_size]; first | done | omega)) only [push_cast, seval, f76N0, f76N1])) <;> (repeat' ((first | apply ga_dec | apply ga_ndec | apply cd_dec | apply cd_ndec | apply gd_dec | apply gd_ndec | apply ga_split | apply cd_split | apply gd_split) <;> intro hc <;> try (simp -implicitDefEqProofs (maxSteps := 2000000) (disch := first | omega | (simp only [vz_push, vz_set, drop_size]; first | done | omega)) only [push_cast, seval, f76N0, f76N1, hc])))
    rw [List.nil_append] at hg
    exact hg.outm hkp (fun _ => rfl) firm_eS (by omega)
def withL (n : Int) (p : Int × Int) : Int × Int := (p.1, n)
theorem rwith_ok (a : List (Int × Int)) (n : Int) (ha : a.length < 1000000) : PC (XK k) 48 [LS a, .c (.int .i64 n)] (LS (a.map (withL n))) := by
  refine PC_of fun s => ?_
  refine f48_in (hk _ (by decide)) ?_
  (try (simp -implicitDefEqProofs (maxSteps := 2000000) (disch := first | omega | (simp only [vz_push, vz_set, drop_size]; first | done | omega)) only [push_cast, seval, f48N0, f48N1])) <;> (repeat' ((first | apply ga_dec | apply ga_ndec | apply cd_dec | apply cd_ndec | apply gd_dec | apply gd_ndec | apply ga_split | apply cd_split | apply gd_split) <;> intro hc <;> try (simp -implicitDefEqProofs (maxSteps := 2000000) (disch := first | omega | (simp only [vz_push, vz_set, drop_size]; first | done | omega)) only [push_cast, seval, f48N0, f48N1, hc])))
  refine VW_iter (fun m ρ s' => ∃ (i : Nat) (v : AV), m = a.length - i ∧ i ≤ a.length ∧ ρ.get 0 = LS a ∧ ρ.get 1 = .c (.int .i64 n) ∧ ρ.get 5 = v ∧ ρ.get 6 = .c (.int .i64 i) ∧ KeepA s s' ∧ Gr s s' 29 2 v i (((a.take i).map (withL n)).map eS).flatten) a.length
    ⟨0, _, rfl, by omega, by (((try simp -implicitDefEqProofs only [eA_tmp, eA_const, AEnv.get_set, ofA_get, List.getD_cons_zero, List.getD_cons_succ, ↓reduceIte, reduceCtorEq, Nat.reduceEqDiff]); try (first | (with_reducible assumption) | (with_reducible rfl) | (congr 2 <;> omega) | rfl))), by (((try simp -implicitDefEqProofs only [eA_tmp, eA_const, AEnv.get_set, ofA_get, List.getD_cons_zero, List.getD_cons_succ, ↓reduceIte, reduceCtorEq, Nat.reduceEqDiff]); try (first | (with_reducible assumption) | (with_reducible rfl) | (congr 2 <;> omega) | rfl))), by (((try simp -implicitDefEqProofs only [eA_tmp, eA_const, AEnv.get_set, ofA_get, List.getD_cons_zero, List.getD_cons_succ, ↓reduceIte, reduceCtorEq, Nat.reduceEqDiff]); try (first | (with_reducible assumption) | (with_reducible rfl) | (congr 2 <;> omega) | rfl))), by (((try simp -implicitDefEqProofs only [eA_tmp, eA_const, AEnv.get_set, ofA_get, List.getD_cons_zero, List.getD_cons_succ, ↓reduceIte, reduceCtorEq, Nat.reduceEqDiff]); try (first | (with_reducible assumption) | (with_reducible rfl) | (congr 2 <;> omega) | rfl))), KeepA.refl _, .nil⟩ ?_
  rintro m ρ s' ⟨i, v, rfl, hi, g0, g1, g5, g6, j1, j2⟩
  (try (simp -implicitDefEqProofs (maxSteps := 2000000) (disch := first | omega | (simp only [vz_push, vz_set, drop_size]; first | done | omega)) only [push_cast, seval, f48N0, f48N1, g0, g1, g5, g6])) <;> (repeat' ((first | apply ga_dec | apply ga_ndec | apply cd_dec | apply cd_ndec | apply gd_dec | apply gd_ndec | apply ga_split | apply cd_split | apply gd_split) <;> intro hc <;> try (simp -implicitDefEqProofs (maxSteps := 2000000) (disch := first | omega | (simp only [vz_push, vz_set, drop_size]; first | done | omega)) only [push_cast, seval, f48N0, f48N1, hc, g0, g1, g5, g6])))
  · have hil : i < a.length := by omega
    have hx := List.getElem?_eq_getElem hil
    generalize a[i] = x at hx
    (try (simp -implicitDefEqProofs (maxSteps := 2000000) (disch := first | omega | (simp only [vz_push, vz_set, drop_size]; first | done | omega)) only [push_cast, seval, f48N0, f48N1, g0, g1, g5, g6, hx, eS])) <;> (repeat' ((first | apply ga_dec | apply ga_ndec | apply cd_dec | apply cd_ndec | apply gd_dec | apply gd_ndec | apply ga_split | apply cd_split | apply gd_split) <;> intro hc <;> try (simp -implicitDefEqProofs (maxSteps := 2000000) (disch := first | omega | (simp only [vz_push, vz_set, drop_size]; first | done | omega)) only [push_cast, seval, f48N0, f48N1, hc, g0, g1, g5, g6, hx, eS])))
    refine Gr.step (j2.push _) (by (repeat first | assumption | exact KeepA.refl _ | apply KeepA.push | refine KeepA.set ?_ (by first | omega | (simp only [vz_push, vz_set, drop_size]; omega) | (have h9 := KeepA.size_le (by assumption); (try simp only [vz_push, vz_set, drop_size] at *); omega)) _ | refine KeepA.drop ?_ (by first | omega | (simp only [vz_push, vz_set, drop_size]; omega) | (have h9 := KeepA.size_le (by assumption); (try simp only [vz_push, vz_set, drop_size] at *); omega)) | refine KeepA.trans ?_ (by assumption))) rfl rfl rfl (room_ok (by constructor <;> (try dsimp only) <;> omega)) ?_
    intro v s1 hg _ hkp
    (try (simp -implicitDefEqProofs (maxSteps := 2000000) (disch := first | omega | (simp only [vz_push, vz_set, drop_size]; first | done | omega)) only [push_cast, seval, f48N0, f48N1, g0, g1, g5, g6])) <;> (repeat' ((first | apply ga_dec | apply ga_ndec | apply cd_dec | apply cd_ndec | apply gd_dec | apply gd_ndec | apply ga_split | apply cd_split | apply gd_split) <;> intro hc <;> try (simp -implicitDefEqProofs (maxSteps := 2000000) (disch := first | omega | (simp only [vz_push, vz_set, drop_size]; first | done | omega)) only [push_cast, seval, f48N0, f48N1, hc, g0, g1, g5, g6])))
    refine ⟨_, by omega, i + 1, v, rfl, by omega, ?_⟩
    simp only [Int.natCast_add, cast_lit, true_and]
    rw [take_snoc hx, List.map_append, List.map_append, List.flatten_append]
    exact ⟨hkp, hg⟩
  · have : i = a.length := by omega
    subst this
    rw [List.take_length] at j2
    (try (simp -implicitDefEqProofs (maxSteps := 2000000) (disch := first | omega | (simp only [vz_push, vz_set, drop_size]; first | done | omega)) only [push_cast, seval, f48N0, f48N1, g5])) <;> (repeat' ((first | apply ga_dec | apply ga_ndec | apply cd_dec | apply cd_ndec | apply gd_dec | apply gd_ndec | apply ga_split | apply cd_split | apply gd_split) <;> intro hc <;> try (simp -implicitDefEqProofs (maxSteps := 2000000) (disch := first | omega | (simp only [vz_push, vz_set, drop_size]; first | done | omega)) only [push_cast, seval, f48N0, f48N1, hc, g5])))
    exact j2.outm j1 (fun _ => rfl) firm_eS (by omega)
theorem rvalues_ok (a : List (Int × Int)) (ha : a.length < 1000000) : PC (XK k) 50 [LS a] (LI (a.map (·.1))) := by
  refine PC_of fun s => ?_
  refine f50_in (hk _ (by decide)) ?_
  (try (simp -implicitDefEqProofs (maxSteps := 2000000) (disch := first | omega | (simp only [vz_push, vz_set, drop_size]; first | done | omega)) only [push_cast, seval, f50N0, f50N1])) <;> (repeat' ((first | apply ga_dec | apply ga_ndec | apply cd_dec | apply cd_ndec | apply gd_dec | apply gd_ndec | apply ga_split | apply cd_split | apply gd_split) <;> intro hc <;> try (simp -implicitDefEqProofs (maxSteps := 2000000) (disch := first | omega | (simp only [vz_push, vz_set, drop_size]; first | done | omega)) only [push_cast, seval, f50N0, f50N1, hc])))
  refine VW_iter (fun m ρ s' => ∃ (i : Nat) (v : AV), m = a.length - i ∧ i ≤ a.length ∧ ρ.get 0 = LS a ∧ ρ.get 3 = v ∧ ρ.get 4 = .c (.int .i64 i) ∧ KeepA s s' ∧ Gr s s' 3 1 v i (((a.take i).map (·.1)).map (eI .i64)).flatten) a.length
    ⟨0, _, rfl, by omega, by (((try simp -implicitDefEqProofs only [eA_tmp, eA_const, AEnv.get_set, ofA_get, List.getD_cons_zero, List.getD_cons_succ, ↓reduceIte, reduceCtorEq, Nat.reduceEqDiff]); try (first | (with_reducible assumption) | (with_reducible rfl) | (congr 2 <;> omega) | rfl))), by (((try simp -implicitDefEqProofs only [eA_tmp, eA_const, AEnv.get_set, ofA_get, List.getD_cons_zero, List.getD_cons_succ, ↓reduceIte, reduceCtorEq, Nat.reduceEqDiff]); try (first | (with_reducible assumption) | (with_reducible rfl) | (congr 2 <;> omega) | rfl))), by (((try simp -implicitDefEqProofs only [eA_tmp, eA_const, AEnv.get_set, ofA_get, List.getD_cons_zero, List.getD_cons_succ, ↓reduceIte, reduceCtorEq, Nat.reduceEqDiff]); try (first | (with_reducible assumption) | (with_reducible rfl) | (congr 2 <;> omega) | rfl))), KeepA.refl _, .nil⟩ ?_
  rintro m ρ s' ⟨i, v, rfl, hi, g0, g3, g4, j1, j2⟩
  (try (simp -implicitDefEqProofs (maxSteps := 2000000) (disch := first | omega | (simp only [vz_push, vz_set, drop_size]; first | done | omega)) only [push_cast, seval, f50N0, f50N1, g0, g3, g4])) <;> (repeat' ((first | apply ga_dec | apply ga_ndec | apply cd_dec | apply cd_ndec | apply gd_dec | apply gd_ndec | apply ga_split | apply cd_split | apply gd_split) <;> intro hc <;> try (simp -implicitDefEqProofs (maxSteps := 2000000) (disch := first | omega | (simp only [vz_push, vz_set, drop_size]; first | done | omega)) only [push_cast, seval, f50N0, f50N1, hc, g0, g3, g4])))
  · have hil : i < a.length := by omega
    have hx := List.getElem?_eq_getElem hil
    generalize a[i] = x at hx
    (try (simp -implicitDefEqProofs (maxSteps := 2000000) (disch := first | omega | (simp only [vz_push, vz_set, drop_size]; first | done | omega)) only [push_cast, seval, f50N0, f50N1, g0, g3, g4, hx, eS])) <;> (repeat' ((first | apply ga_dec | apply ga_ndec | apply cd_dec | apply cd_ndec | apply gd_dec | apply gd_ndec | apply ga_split | apply cd_split | apply gd_split) <;> intro hc <;> try (simp -implicitDefEqProofs (maxSteps := 2000000) (disch := first | omega | (simp only [vz_push, vz_set, drop_size]; first | done | omega)) only [push_cast, seval, f50N0, f50N1, hc, g0, g3, g4, hx, eS])))
    refine Gr.step (j2.push _) (by (repeat first | assumption | exact KeepA.refl _ | apply KeepA.push | refine KeepA.set ?_ (by first | omega | (simp only [vz_push, vz_set, drop_size]; omega) | (have h9 := KeepA.size_le (by assumption); (try simp only [vz_push, vz_set, drop_size] at *); omega)) _ | refine KeepA.drop ?_ (by first | omega | (simp only [vz_push, vz_set, drop_size]; omega) | (have h9 := KeepA.size_le (by assumption); (try simp only [vz_push, vz_set, drop_size] at *); omega)) | refine KeepA.trans ?_ (by assumption))) rfl rfl rfl (room_ok (by constructor <;> (try dsimp only) <;> omega)) ?_
    intro v s1 hg _ hkp
    (try (simp -implicitDefEqProofs (maxSteps := 2000000) (disch := first | omega | (simp only [vz_push, vz_set, drop_size]; first | done | omega)) only [push_cast, seval, f50N0, f50N1, g0, g3, g4])) <;> (repeat' ((first | apply ga_dec | apply ga_ndec | apply cd_dec | apply cd_ndec | apply gd_dec | apply gd_ndec | apply ga_split | apply cd_split | apply gd_split) <;> intro hc <;> try (simp -implicitDefEqProofs (maxSteps := 2000000) (disch := first | omega | (simp only [vz_push, vz_set, drop_size]; first | done | omega)) only [push_cast, seval, f50N0, f50N1, hc, g0, g3, g4])))
    refine ⟨_, by omega, i + 1, v, rfl, by omega, ?_⟩
    simp only [Int.natCast_add, cast_lit, true_and]
    rw [take_snoc hx, List.map_append, List.map_append, List.flatten_append]
    exact ⟨hkp, hg⟩
  · have : i = a.length := by omega
    subst this
    rw [List.take_length] at j2
    (try (simp -implicitDefEqProofs (maxSteps := 2000000) (disch := first | omega | (simp only [vz_push, vz_set, drop_size]; first | done | omega)) only [push_cast, seval, f50N0, f50N1, g3])) <;> (repeat' ((first | apply ga_dec | apply ga_ndec | apply cd_dec | apply cd_ndec | apply gd_dec | apply gd_ndec | apply ga_split | apply cd_split | apply gd_split) <;> intro hc <;> try (simp -implicitDefEqProofs (maxSteps := 2000000) (disch := first | omega | (simp only [vz_push, vz_set, drop_size]; first | done | omega)) only [push_cast, seval, f50N0, f50N1, hc, g3])))
    exact j2.outm j1 (fun _ => rfl) (firm_eI _) (by omega)
end Go.Proofs.Ytndedkpcfjnecaa.Ab
