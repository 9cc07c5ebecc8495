/- Whole histories: light, All, both Texts. -/
import Derived.Test.YticllcglldbffaaQ5
import Derived.Test.YticllcglldbffaaQ3
namespace Go.Proofs.Yticllcglldbffaa.Ab
open Go.Proofs
set_option maxRecDepth 100000
set_option maxHeartbeats 4000000
set_option linter.unusedSimpArgs false
set_option linter.unusedVariables false
set_option linter.unnecessarySimpa false
set_option linter.unusedSectionVars false
abbrev Hs := List (List (Int × Int))
def eH (l : List (Int × Int)) : List AV := [LS l]
@[reducible] def LH (h : Hs) : AV := .lst 1 (h.map eH)
theorem len_eH (l : List (Int × Int)) : (eH l).length = 1 := rfl
theorem firm_eH (l : List (Int × Int)) : FirmR (eH l) := FirmR.cons (Firm.LS _) FirmR.nil
def Lt (h : Hs) : Prop := h.length ≤ 30 ∧ ∀ l ∈ h, l.length ≤ 60
def textH (h : Hs) : List UInt8 := h.flatMap fun l => escL (l.map (·.1)) ++ [10]
theorem textH_snoc (h : Hs) (l : List (Int × Int)) : textH (h ++ [l]) = textH h ++ (escL (l.map (·.1)) ++ [10]) := by simp [textH]
theorem textH_len {h : Hs} (hl : ∀ l ∈ h, l.length ≤ 60 ∧ (l.map (·.1)).all right = true) : (textH h).length ≤ 481 * h.length := by
  induction h with
  | nil => simp [textH]
  | cons a h ih =>
    have h1 := ih fun l hl2 => hl l (List.mem_cons_of_mem _ hl2)
    have h2 := hl a List.mem_cons_self
    have h3 := (escL_len h2.2).2
    rw [List.length_map] at h3
    have e : textH (a :: h) = escL (a.map (·.1)) ++ [10] ++ textH h := rfl
    rw [e, List.length_append, List.length_append, List.length_singleton, List.length_cons]
    omega
section
variable {k : Nat → List Value → Option Value} (hk : ∀ f, f ≠ 32 → f ≠ 51 → Open k f)
include hk
theorem light_ok (h : Hs) (hn : h.length < 9223372036854775808) : PC (XK k) 5 [LH h] (.c (.bool (h.all (fun l => decide (l.length ≤ 60)) && decide (h.length ≤ 30)))) := by
  refine PC_of fun st => ?_
  refine f5_in (hk _ (by decide) (by decide)) ?_
  (try (simp -implicitDefEqProofs (maxSteps := 2000000) (disch := first | omega | (simp only [vz_push, vz_set, drop_size]; first | done | omega)) only [push_cast, seval, f5N0, f5N1, f5N2])) <;> (repeat' ((first | apply ga_dec | apply ga_ndec | apply cd_dec | apply cd_ndec | apply gd_dec | apply gd_ndec | apply ga_split | apply cd_split | apply gd_split) <;> intro hc <;> try (simp -implicitDefEqProofs (maxSteps := 2000000) (disch := first | omega | (simp only [vz_push, vz_set, drop_size]; first | done | omega)) only [push_cast, seval, f5N0, f5N1, f5N2, hc])))
  refine VW_iter (fun m ρ s' => ∃ i : Nat, m = h.length - i ∧ i ≤ h.length ∧ ρ.get 0 = LH h ∧ ρ.get 3 = .c (.int .i64 i) ∧ (s' = st) ∧ ((h.take i).all (fun l => decide (l.length ≤ 60)) = true)) (h.length) ⟨0, rfl, Nat.zero_le _, by (((try simp -implicitDefEqProofs only [eA_tmp, eA_const, AEnv.get_set, ofA_get, List.getD_cons_zero, List.getD_cons_succ, ↓reduceIte, reduceCtorEq, Nat.reduceEqDiff]); try (first | (with_reducible assumption) | (with_reducible rfl) | (congr 2 <;> omega) | rfl))), by (((try simp -implicitDefEqProofs only [eA_tmp, eA_const, AEnv.get_set, ofA_get, List.getD_cons_zero, List.getD_cons_succ, ↓reduceIte, reduceCtorEq, Nat.reduceEqDiff]); try (first | (with_reducible assumption) | (with_reducible rfl) | (congr 2 <;> omega) | rfl))), rfl, rfl⟩ ?_
  rintro m ρ s' ⟨i, rfl, hi, g0, g3, j1, j2⟩
  subst j1
  by_cases c1 : i < h.length
  · have he := List.getElem?_eq_getElem c1
    generalize h[i] = l at he
    repeat' (first | ((first | apply ga_dec | apply ga_ndec | apply cd_dec | apply cd_ndec | apply gd_dec | apply gd_ndec | apply ga_split | apply cd_split | apply gd_split) <;> intro hc <;> (try (simp -implicitDefEqProofs (maxSteps := 2000000) (disch := first | omega | (simp only [vz_push, vz_set, drop_size]; first | done | omega)) only [push_cast, seval, f5N0, f5N1, f5N2, hc, g0, g3, he, eH])) <;> (try (exfalso; omega))) | (simp -implicitDefEqProofs (maxSteps := 2000000) (disch := first | omega | (simp only [vz_push, vz_set, drop_size]; first | done | omega)) only [push_cast, seval, f5N0, f5N1, f5N2, g0, g3, he, eH]))
    · refine out_bool (by (repeat first | assumption | exact KeepA.refl _ | apply KeepA.push | refine KeepA.set ?_ (by first | omega | (simp only [vz_push, vz_set, drop_size]; omega) | (have h9 := KeepA.size_le (by assumption); (try simp only [vz_push, vz_set, drop_size] at *); omega)) _ | refine KeepA.drop ?_ (by first | omega | (simp only [vz_push, vz_set, drop_size]; omega) | (have h9 := KeepA.size_le (by assumption); (try simp only [vz_push, vz_set, drop_size] at *); omega)) | refine KeepA.trans ?_ (by assumption))) ?_
      have : h.all (fun l => decide (l.length ≤ 60)) = false := List.all_eq_false.2 ⟨l, List.mem_of_getElem? he, by simp; omega⟩
      rw [this]
      rfl
    · refine ⟨_ - (i + 1), by omega, i + 1, rfl, by omega, ?_⟩ <;> (try simp only [Int.natCast_add, Int.natCast_one, cast_lit, and_true, true_and, eq_self])
      rw [take_snoc he, List.all_append, j2]
      simp
      omega
  · have hi2 : i = h.length := by omega
    subst hi2
    rw [List.take_length] at j2
    repeat' (first | ((first | apply ga_dec | apply ga_ndec | apply cd_dec | apply cd_ndec | apply gd_dec | apply gd_ndec | apply ga_split | apply cd_split | apply gd_split) <;> intro hc <;> (try (simp -implicitDefEqProofs (maxSteps := 2000000) (disch := first | omega | (simp only [vz_push, vz_set, drop_size]; first | done | omega)) only [push_cast, seval, f5N0, f5N1, f5N2, hc, g0, g3])) <;> (try (exfalso; omega))) | (simp -implicitDefEqProofs (maxSteps := 2000000) (disch := first | omega | (simp only [vz_push, vz_set, drop_size]; first | done | omega)) only [push_cast, seval, f5N0, f5N1, f5N2, g0, g3]))
    all_goals (try (exfalso; omega))
    refine out_bool (by (repeat first | assumption | exact KeepA.refl _ | apply KeepA.push | refine KeepA.set ?_ (by first | omega | (simp only [vz_push, vz_set, drop_size]; omega) | (have h9 := KeepA.size_le (by assumption); (try simp only [vz_push, vz_set, drop_size] at *); omega)) _ | refine KeepA.drop ?_ (by first | omega | (simp only [vz_push, vz_set, drop_size]; omega) | (have h9 := KeepA.size_le (by assumption); (try simp only [vz_push, vz_set, drop_size] at *); omega)) | refine KeepA.trans ?_ (by assumption))) ?_
    rw [j2]
    simp
    omega
theorem rallH_ok (h : Hs) (hn : Lt h) : PC (XK k) 8 [LH h] (.c (.bool (h.all fun l => l.all rightS))) := by
  refine PC_of fun st => ?_
  refine f8_in (hk _ (by decide) (by decide)) ?_
  have h1 := hn.1
  (try (simp -implicitDefEqProofs (maxSteps := 2000000) (disch := first | omega | (simp only [vz_push, vz_set, drop_size]; first | done | omega)) only [push_cast, seval, f8N0, f8N1, f8N2])) <;> (repeat' ((first | apply ga_dec | apply ga_ndec | apply cd_dec | apply cd_ndec | apply gd_dec | apply gd_ndec | apply ga_split | apply cd_split | apply gd_split) <;> intro hc <;> try (simp -implicitDefEqProofs (maxSteps := 2000000) (disch := first | omega | (simp only [vz_push, vz_set, drop_size]; first | done | omega)) only [push_cast, seval, f8N0, f8N1, f8N2, hc])))
  refine VW_iter (fun m ρ s' => ∃ i : Nat, m = h.length - i ∧ i ≤ h.length ∧ ρ.get 0 = LH h ∧ ρ.get 3 = .c (.int .i64 i) ∧ (s' = st) ∧ ((h.take i).all (fun l => l.all rightS) = true)) (h.length) ⟨0, rfl, Nat.zero_le _, by (((try simp -implicitDefEqProofs only [eA_tmp, eA_const, AEnv.get_set, ofA_get, List.getD_cons_zero, List.getD_cons_succ, ↓reduceIte, reduceCtorEq, Nat.reduceEqDiff]); try (first | (with_reducible assumption) | (with_reducible rfl) | (congr 2 <;> omega) | rfl))), by (((try simp -implicitDefEqProofs only [eA_tmp, eA_const, AEnv.get_set, ofA_get, List.getD_cons_zero, List.getD_cons_succ, ↓reduceIte, reduceCtorEq, Nat.reduceEqDiff]); try (first | (with_reducible assumption) | (with_reducible rfl) | (congr 2 <;> omega) | rfl))), rfl, rfl⟩ ?_
  rintro m ρ s' ⟨i, rfl, hi, g0, g3, j1, j2⟩
  subst j1
  by_cases c1 : i < h.length
  · have he := List.getElem?_eq_getElem c1
    have hm := hn.2 _ (List.getElem_mem c1)
    generalize h[i] = l at he hm
    have w := all_ok hk l (by omega)
    cases hl : l.all rightS with
    | false =>
      rw [hl] at w
      repeat' (first | ((first | apply ga_dec | apply ga_ndec | apply cd_dec | apply cd_ndec | apply gd_dec | apply gd_ndec | apply ga_split | apply cd_split | apply gd_split) <;> intro hc <;> (try (simp -implicitDefEqProofs (maxSteps := 2000000) (disch := first | omega | (simp only [vz_push, vz_set, drop_size]; first | done | omega)) only [push_cast, seval, f8N0, f8N1, f8N2, hc, g0, g3, he, eH])) <;> (try (exfalso; omega))) | refine VC_pure (w) ?_ | (simp -implicitDefEqProofs (maxSteps := 2000000) (disch := first | omega | (simp only [vz_push, vz_set, drop_size]; first | done | omega)) only [push_cast, seval, f8N0, f8N1, f8N2, g0, g3, he, eH]))
      refine out_bool (by (repeat first | assumption | exact KeepA.refl _ | apply KeepA.push | refine KeepA.set ?_ (by first | omega | (simp only [vz_push, vz_set, drop_size]; omega) | (have h9 := KeepA.size_le (by assumption); (try simp only [vz_push, vz_set, drop_size] at *); omega)) _ | refine KeepA.drop ?_ (by first | omega | (simp only [vz_push, vz_set, drop_size]; omega) | (have h9 := KeepA.size_le (by assumption); (try simp only [vz_push, vz_set, drop_size] at *); omega)) | refine KeepA.trans ?_ (by assumption))) ?_
      exact (List.all_eq_false.2 ⟨l, List.mem_of_getElem? he, by rw [hl]; simp⟩).symm
    | true =>
      rw [hl] at w
      repeat' (first | ((first | apply ga_dec | apply ga_ndec | apply cd_dec | apply cd_ndec | apply gd_dec | apply gd_ndec | apply ga_split | apply cd_split | apply gd_split) <;> intro hc <;> (try (simp -implicitDefEqProofs (maxSteps := 2000000) (disch := first | omega | (simp only [vz_push, vz_set, drop_size]; first | done | omega)) only [push_cast, seval, f8N0, f8N1, f8N2, hc, g0, g3, he, eH])) <;> (try (exfalso; omega))) | refine VC_pure (w) ?_ | (simp -implicitDefEqProofs (maxSteps := 2000000) (disch := first | omega | (simp only [vz_push, vz_set, drop_size]; first | done | omega)) only [push_cast, seval, f8N0, f8N1, f8N2, g0, g3, he, eH]))
      refine ⟨_ - (i + 1), by omega, i + 1, rfl, by omega, ?_⟩ <;> (try simp only [Int.natCast_add, Int.natCast_one, cast_lit, and_true, true_and, eq_self])
      rw [take_snoc he, List.all_append, j2]
      simp [hl]
  · have hi2 : i = h.length := by omega
    subst hi2
    rw [List.take_length] at j2
    repeat' (first | ((first | apply ga_dec | apply ga_ndec | apply cd_dec | apply cd_ndec | apply gd_dec | apply gd_ndec | apply ga_split | apply cd_split | apply gd_split) <;> intro hc <;> (try (simp -implicitDefEqProofs (maxSteps := 2000000) (disch := first | omega | (simp only [vz_push, vz_set, drop_size]; first | done | omega)) only [push_cast, seval, f8N0, f8N1, f8N2, hc, g0, g3])) <;> (try (exfalso; omega))) | (simp -implicitDefEqProofs (maxSteps := 2000000) (disch := first | omega | (simp only [vz_push, vz_set, drop_size]; first | done | omega)) only [push_cast, seval, f8N0, f8N1, f8N2, g0, g3]))
    all_goals (try (exfalso; omega))
    exact out_bool (by (repeat first | assumption | exact KeepA.refl _ | apply KeepA.push | refine KeepA.set ?_ (by first | omega | (simp only [vz_push, vz_set, drop_size]; omega) | (have h9 := KeepA.size_le (by assumption); (try simp only [vz_push, vz_set, drop_size] at *); omega)) _ | refine KeepA.drop ?_ (by first | omega | (simp only [vz_push, vz_set, drop_size]; omega) | (have h9 := KeepA.size_le (by assumption); (try simp only [vz_push, vz_set, drop_size] at *); omega)) | refine KeepA.trans ?_ (by assumption))) (by rw [j2])
theorem escText_ok (hrep : ∀ d : Nat, d ≤ 16 → PC (XK k) 32 [tx [48], .c (.int .i64 d)] (tx (List.replicate d 48))) (h : Hs) (hn : Lt h) :
    PC (XK k) 7 [LH h] (if (h.all fun l => l.all rightS) = true then .tup [tx (textH h), .c (.int .i64 0)] else .tup [tx [], .c (.int .i64 2)]) := by
  refine PC_of fun st => ?_
  refine f7_in (hk _ (by decide) (by decide)) ?_
  have h1 := hn.1
  repeat' (first | ((first | apply ga_dec | apply ga_ndec | apply cd_dec | apply cd_ndec | apply gd_dec | apply gd_ndec | apply ga_split | apply cd_split | apply gd_split) <;> intro hc <;> (try (simp -implicitDefEqProofs (maxSteps := 2000000) (disch := first | omega | (simp only [vz_push, vz_set, drop_size]; first | done | omega)) only [push_cast, seval, f7N0, f7N1, f7N2, hc])) <;> (try (exfalso; omega))) | (simp -implicitDefEqProofs (maxSteps := 2000000) (disch := first | omega | (simp only [vz_push, vz_set, drop_size]; first | done | omega)) only [push_cast, seval, f7N0, f7N1, f7N2]))
  refine VW_iter (fun m ρ s' => ∃ i : Nat, m = h.length - i ∧ i ≤ h.length ∧ ρ.get 4 = .ptr ⟨st.size, 0, none⟩ ∧ ρ.get 9 = LH h ∧ ρ.get 10 = .c (.int .i64 h.length) ∧ ρ.get 11 = .c (.int .i64 i) ∧ (Bd false st s' st.size (textH (h.take i))) ∧ (KeepA st s') ∧ ((h.take i).all (fun l => l.all rightS) = true)) (h.length) ⟨0, rfl, Nat.zero_le _, by (((try simp -implicitDefEqProofs only [eA_tmp, eA_const, AEnv.get_set, ofA_get, List.getD_cons_zero, List.getD_cons_succ, ↓reduceIte, reduceCtorEq, Nat.reduceEqDiff]); try (first | (with_reducible assumption) | (with_reducible rfl) | (congr 2 <;> omega) | rfl))), by (((try simp -implicitDefEqProofs only [eA_tmp, eA_const, AEnv.get_set, ofA_get, List.getD_cons_zero, List.getD_cons_succ, ↓reduceIte, reduceCtorEq, Nat.reduceEqDiff]); try (first | (with_reducible assumption) | (with_reducible rfl) | (congr 2 <;> omega) | rfl))), by (((try simp -implicitDefEqProofs only [eA_tmp, eA_const, AEnv.get_set, ofA_get, List.getD_cons_zero, List.getD_cons_succ, ↓reduceIte, reduceCtorEq, Nat.reduceEqDiff]); try (first | (with_reducible assumption) | (with_reducible rfl) | (congr 2 <;> omega) | rfl))), by (((try simp -implicitDefEqProofs only [eA_tmp, eA_const, AEnv.get_set, ofA_get, List.getD_cons_zero, List.getD_cons_succ, ↓reduceIte, reduceCtorEq, Nat.reduceEqDiff]); try (first | (with_reducible assumption) | (with_reducible rfl) | (congr 2 <;> omega) | rfl))), Bd.new (Nat.le_refl _), by (repeat first | assumption | exact KeepA.refl _ | apply KeepA.push | refine KeepA.set ?_ (by first | omega | (simp only [vz_push, vz_set, drop_size]; omega) | (have h9 := KeepA.size_le (by assumption); (try simp only [vz_push, vz_set, drop_size] at *); omega)) _ | refine KeepA.drop ?_ (by first | omega | (simp only [vz_push, vz_set, drop_size]; omega) | (have h9 := KeepA.size_le (by assumption); (try simp only [vz_push, vz_set, drop_size] at *); omega)) | refine KeepA.trans ?_ (by assumption)), rfl⟩ ?_
  rintro m ρ s' ⟨i, rfl, hi, g4, g9, g10, g11, j1, j2, j3⟩
  have hlt := j1.lt
  have hll : (textH (h.take i)).length ≤ 481 * 30 := by
    have := textH_len (h := h.take i) fun l hl => ⟨hn.2 l (List.mem_of_mem_take hl), rightS_all (List.all_eq_true.1 j3 l hl)⟩
    rw [List.length_take] at this
    omega
  by_cases c1 : i < h.length
  · have he := List.getElem?_eq_getElem c1
    have hm := hn.2 _ (List.getElem_mem c1)
    generalize h[i] = l at he hm
    have w := escLine_ok hk hrep l (by omega)
    by_cases hl : l.all rightS = true
    · rw [if_pos hl] at w
      have hel := (escL_len (rightS_all hl)).2
      rw [List.length_map] at hel
      have hsn : textH (h.take (i + 1)) = textH (h.take i) ++ escL (l.map (·.1)) ++ [10] := by rw [take_snoc he, textH_snoc, List.append_assoc]
      have hal : (h.take (i + 1)).all (fun l => l.all rightS) = true := by rw [take_snoc he, List.all_append, j3]; simp [hl]
      generalize escL (l.map (·.1)) = t at *
      repeat' (first | ((first | apply ga_dec | apply ga_ndec | apply cd_dec | apply cd_ndec | apply gd_dec | apply gd_ndec | apply ga_split | apply cd_split | apply gd_split) <;> intro hc <;> (try (simp -implicitDefEqProofs (maxSteps := 2000000) (disch := first | omega | (simp only [vz_push, vz_set, drop_size]; first | done | omega)) only [push_cast, seval, f7N0, f7N1, f7N2, hc, g4, g9, g10, g11, he, eH])) <;> (try (exfalso; omega))) | refine VC_pure (w) ?_ | (simp -implicitDefEqProofs (maxSteps := 2000000) (disch := first | omega | (simp only [vz_push, vz_set, drop_size]; first | done | omega)) only [push_cast, seval, f7N0, f7N1, f7N2, g4, g9, g10, g11, he, eH]))
      all_goals (try (exfalso; omega))
      refine sbWrite_ok hk j1 t (by omega) ?_
      intro s2 r q1 q2 q3
      (try (simp -implicitDefEqProofs (maxSteps := 2000000) (disch := first | omega | (simp only [vz_push, vz_set, drop_size]; first | done | omega)) only [push_cast, seval, f7N0, f7N1, f7N2, g4, g9, g10, g11])) <;> (repeat' ((first | apply ga_dec | apply ga_ndec | apply cd_dec | apply cd_ndec | apply gd_dec | apply gd_ndec | apply ga_split | apply cd_split | apply gd_split) <;> intro hc <;> try (simp -implicitDefEqProofs (maxSteps := 2000000) (disch := first | omega | (simp only [vz_push, vz_set, drop_size]; first | done | omega)) only [push_cast, seval, f7N0, f7N1, f7N2, hc, g4, g9, g10, g11])))
      refine sbByteI_ok hk q1 10 (by omega) (by omega) (by rw [List.length_append]; omega) ?_
      intro s3 r3 q4 q5 q6
      (try (simp -implicitDefEqProofs (maxSteps := 2000000) (disch := first | omega | (simp only [vz_push, vz_set, drop_size]; first | done | omega)) only [push_cast, seval, f7N0, f7N1, f7N2, g4, g9, g10, g11])) <;> (repeat' ((first | apply ga_dec | apply ga_ndec | apply cd_dec | apply cd_ndec | apply gd_dec | apply gd_ndec | apply ga_split | apply cd_split | apply gd_split) <;> intro hc <;> try (simp -implicitDefEqProofs (maxSteps := 2000000) (disch := first | omega | (simp only [vz_push, vz_set, drop_size]; first | done | omega)) only [push_cast, seval, f7N0, f7N1, f7N2, hc, g4, g9, g10, g11])))
      exact ⟨_ - (i + 1), by omega, i + 1, rfl, by omega, congrArg (fun z => AV.c (.int .i64 z)) (by omega), by rw [hsn]; exact q4, q6 (q3 (by (repeat first | assumption | exact KeepA.refl _ | apply KeepA.push | refine KeepA.set ?_ (by first | omega | (simp only [vz_push, vz_set, drop_size]; omega) | (have h9 := KeepA.size_le (by assumption); (try simp only [vz_push, vz_set, drop_size] at *); omega)) _ | refine KeepA.drop ?_ (by first | omega | (simp only [vz_push, vz_set, drop_size]; omega) | (have h9 := KeepA.size_le (by assumption); (try simp only [vz_push, vz_set, drop_size] at *); omega)) | refine KeepA.trans ?_ (by assumption)))), hal⟩
    · rw [if_neg hl] at w
      have hal : (h.all fun l => l.all rightS) = false := List.all_eq_false.2 ⟨l, List.mem_of_getElem? he, hl⟩
      rw [if_neg (by rw [hal]; decide)]
      repeat' (first | ((first | apply ga_dec | apply ga_ndec | apply cd_dec | apply cd_ndec | apply gd_dec | apply gd_ndec | apply ga_split | apply cd_split | apply gd_split) <;> intro hc <;> (try (simp -implicitDefEqProofs (maxSteps := 2000000) (disch := first | omega | (simp only [vz_push, vz_set, drop_size]; first | done | omega)) only [push_cast, seval, f7N0, f7N1, f7N2, hc, g4, g9, g10, g11, he, eH])) <;> (try (exfalso; omega))) | refine VC_pure (w) ?_ | (simp -implicitDefEqProofs (maxSteps := 2000000) (disch := first | omega | (simp only [vz_push, vz_set, drop_size]; first | done | omega)) only [push_cast, seval, f7N0, f7N1, f7N2, g4, g9, g10, g11, he, eH]))
      all_goals (try (exfalso; omega))
      exact ⟨by (repeat first | assumption | exact KeepA.refl _ | apply KeepA.push | refine KeepA.set ?_ (by first | omega | (simp only [vz_push, vz_set, drop_size]; omega) | (have h9 := KeepA.size_le (by assumption); (try simp only [vz_push, vz_set, drop_size] at *); omega)) _ | refine KeepA.drop ?_ (by first | omega | (simp only [vz_push, vz_set, drop_size]; omega) | (have h9 := KeepA.size_le (by assumption); (try simp only [vz_push, vz_set, drop_size] at *); omega)) | refine KeepA.trans ?_ (by assumption)), Se.firm (Firm.tup (all_cons (Firm.c _) (all_cons (Firm.c _) all_nil)))⟩
  · have hi2 : i = h.length := by omega
    subst hi2
    rw [List.take_length] at j1 j3 hll
    rw [if_pos j3]
    repeat' (first | ((first | apply ga_dec | apply ga_ndec | apply cd_dec | apply cd_ndec | apply gd_dec | apply gd_ndec | apply ga_split | apply cd_split | apply gd_split) <;> intro hc <;> (try (simp -implicitDefEqProofs (maxSteps := 2000000) (disch := first | omega | (simp only [vz_push, vz_set, drop_size]; first | done | omega)) only [push_cast, seval, f7N0, f7N1, f7N2, hc, g4, g9, g10, g11])) <;> (try (exfalso; omega))) | (simp -implicitDefEqProofs (maxSteps := 2000000) (disch := first | omega | (simp only [vz_push, vz_set, drop_size]; first | done | omega)) only [push_cast, seval, f7N0, f7N1, f7N2, g4, g9, g10, g11]))
    all_goals (try (exfalso; omega))
    refine sbString_ok hk j1 (.inl rfl) (by omega) ?_
    intro s2 q1 q2
    (try (simp -implicitDefEqProofs (maxSteps := 2000000) (disch := first | omega | (simp only [vz_push, vz_set, drop_size]; first | done | omega)) only [push_cast, seval, f7N0, f7N1, f7N2])) <;> (repeat' ((first | apply ga_dec | apply ga_ndec | apply cd_dec | apply cd_ndec | apply gd_dec | apply gd_ndec | apply ga_split | apply cd_split | apply gd_split) <;> intro hc <;> try (simp -implicitDefEqProofs (maxSteps := 2000000) (disch := first | omega | (simp only [vz_push, vz_set, drop_size]; first | done | omega)) only [push_cast, seval, f7N0, f7N1, f7N2, hc])))
    exact ⟨q2 j2, Se.firm (Firm.tup (all_cons (Firm.c _) (all_cons (Firm.c _) all_nil)))⟩
end
end Go.Proofs.Yticllcglldbffaa.Ab
