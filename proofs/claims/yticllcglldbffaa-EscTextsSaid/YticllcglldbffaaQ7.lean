/- strings.Cut at one byte; the document's text; esc.Read. -/
import Derived.Test.YticllcglldbffaaQ6
namespace Go.Proofs.Yticllcglldbffaa.Ab
open Go.Proofs
set_option maxRecDepth 100000
set_option maxHeartbeats 4000000
set_option linter.unusedSimpArgs false
set_option linter.unusedVariables false
set_option linter.unnecessarySimpa false
set_option linter.unusedSectionVars false
theorem idx_split (c : UInt8) : ∀ l : List UInt8, Lib.indexByte l c = if c ∈ l then ((l.takeWhile (· ≠ c)).length : Int) else -1
  | [] => rfl
  | a :: l => by
    have ih := idx_split c l
    by_cases h : a = c
    · subst h
      simp [Lib.indexByte, List.takeWhile]
    · have h2 : ¬ c = a := fun e => h e.symm
      simp only [Lib.indexByte, ih, List.mem_cons, h2, false_or]
      have hb : (a == c) = false := by simpa using h
      rw [hb]
      by_cases hm : c ∈ l
      · have hne : ((((l.takeWhile (· ≠ c)).length : Int)) == -1) = false := by
          rw [beq_eq_false_iff_ne]
          omega
        have ht : (a :: l).takeWhile (fun x => decide (x ≠ c)) = a :: l.takeWhile (fun x => decide (x ≠ c)) := by
          rw [List.takeWhile_cons, if_pos (by simpa using h)]
        simp only [if_pos hm, hne, ht, List.length_cons]
        simp
      · simp [hm]
/-- A byte splits a text. -/
theorem byte_split {c : UInt8} : ∀ {l : List UInt8}, c ∈ l → (l.takeWhile (· ≠ c)).length < l.length ∧ l.take (l.takeWhile (· ≠ c)).length = l.takeWhile (· ≠ c) ∧ l.drop (l.takeWhile (· ≠ c)).length = l.dropWhile (· ≠ c)
  | [], h => by simp at h
  | a :: l, h => by
    by_cases ha : a = c
    · subst ha
      simp [List.takeWhile, List.dropWhile]
    · have hm : c ∈ l := by
        rcases List.mem_cons.1 h with e | e
        · exact absurd e.symm ha
        · exact e
      obtain ⟨h1, h2, h3⟩ := byte_split hm
      have ht : (a :: l).takeWhile (fun x => decide (x ≠ c)) = a :: l.takeWhile (fun x => decide (x ≠ c)) := by rw [List.takeWhile_cons, if_pos (by simpa using ha)]
      have hd : (a :: l).dropWhile (fun x => decide (x ≠ c)) = l.dropWhile (fun x => decide (x ≠ c)) := by rw [List.dropWhile_cons, if_pos (by simpa using ha)]
      rw [ht, hd, List.length_cons, List.length_cons, List.take_succ_cons, List.drop_succ_cons, h2, h3]
      exact ⟨by omega, rfl, rfl⟩
section
variable {k : Nat → List Value → Option Value} (hk : ∀ f, f ≠ 32 → f ≠ 51 → Open k f)
include hk
theorem cut1_ok (hix : ∀ (l : List UInt8) (c : UInt8), PC (XK k) 51 [tx l, tx [c]] (.c (.int .i64 (Lib.indexByte l c)))) (s : List UInt8) (c : UInt8) (hs : s.length < 1000000) :
    PC (XK k) 27 [tx s, tx [c]] (.tup [tx (if c ∈ s then s.takeWhile (· ≠ c) else s), tx (if c ∈ s then (s.dropWhile (· ≠ c)).drop 1 else []), .c (.bool (decide (c ∈ s)))]) := by
  have hi := idx_split c s
  have w := hix s c
  by_cases hm : c ∈ s
  · rw [if_pos hm] at hi
    obtain ⟨h1, h2, h3⟩ := byte_split hm
    rw [hi] at w
    simp only [if_pos hm]
    rw [decide_eq_true hm, ← h3, ← h2, List.drop_drop]
    rw [h2]
    generalize (s.takeWhile (· ≠ c)).length = n at *
    refine PC_of fun st => ?_
    refine f27_in (hk _ (by decide) (by decide)) ?_
    (try (simp -implicitDefEqProofs (maxSteps := 2000000) (disch := first | omega | (simp only [vz_push, vz_set, drop_size]; first | done | omega)) only [push_cast, seval, f27N0])) <;> (repeat' ((first | apply ga_dec | apply ga_ndec | apply cd_dec | apply cd_ndec | apply gd_dec | apply gd_ndec | apply ga_split | apply cd_split | apply gd_split) <;> intro hc <;> try (simp -implicitDefEqProofs (maxSteps := 2000000) (disch := first | omega | (simp only [vz_push, vz_set, drop_size]; first | done | omega)) only [push_cast, seval, f27N0, hc])))
    refine f39_in (hk _ (by decide) (by decide)) ?_
    have ht : List.take (s.length - (n + 1)) (List.drop (n + 1) s) = s.drop (n + 1) := List.take_of_length_le (by rw [List.length_drop]; omega)
    repeat' (first | ((first | apply ga_dec | apply ga_ndec | apply cd_dec | apply cd_ndec | apply gd_dec | apply gd_ndec | apply ga_split | apply cd_split | apply gd_split) <;> intro hc <;> (try (simp -implicitDefEqProofs (maxSteps := 2000000) (disch := first | omega | (simp only [vz_push, vz_set, drop_size]; first | done | omega)) only [push_cast, seval, f39N0, f39N1, f27N0, hc, ht])) <;> (try (exfalso; omega))) | refine VC_pure (w) ?_ | (simp -implicitDefEqProofs (maxSteps := 2000000) (disch := first | omega | (simp only [vz_push, vz_set, drop_size]; first | done | omega)) only [push_cast, seval, f39N0, f39N1, f27N0, ht]))
    have h2' : List.takeWhile (fun x => !decide (x = c)) s = List.take n s := by
      rw [h2]
      congr 1
      funext x
      simp
    rw [h2', List.take_length]
    exact ⟨by (repeat first | assumption | exact KeepA.refl _ | apply KeepA.push | refine KeepA.set ?_ (by first | omega | (simp only [vz_push, vz_set, drop_size]; omega) | (have h9 := KeepA.size_le (by assumption); (try simp only [vz_push, vz_set, drop_size] at *); omega)) _ | refine KeepA.drop ?_ (by first | omega | (simp only [vz_push, vz_set, drop_size]; omega) | (have h9 := KeepA.size_le (by assumption); (try simp only [vz_push, vz_set, drop_size] at *); omega)) | refine KeepA.trans ?_ (by assumption)), Se.firm (Firm.tup (all_cons (Firm.c _) (all_cons (Firm.c _) (all_cons (Firm.c _) all_nil))))⟩
  · rw [if_neg hm] at hi
    rw [hi] at w
    simp only [if_neg hm]
    rw [decide_eq_false hm]
    refine PC_of fun st => ?_
    refine f27_in (hk _ (by decide) (by decide)) ?_
    (try (simp -implicitDefEqProofs (maxSteps := 2000000) (disch := first | omega | (simp only [vz_push, vz_set, drop_size]; first | done | omega)) only [push_cast, seval, f27N0])) <;> (repeat' ((first | apply ga_dec | apply ga_ndec | apply cd_dec | apply cd_ndec | apply gd_dec | apply gd_ndec | apply ga_split | apply cd_split | apply gd_split) <;> intro hc <;> try (simp -implicitDefEqProofs (maxSteps := 2000000) (disch := first | omega | (simp only [vz_push, vz_set, drop_size]; first | done | omega)) only [push_cast, seval, f27N0, hc])))
    refine f39_in (hk _ (by decide) (by decide)) ?_
    repeat' (first | ((first | apply ga_dec | apply ga_ndec | apply cd_dec | apply cd_ndec | apply gd_dec | apply gd_ndec | apply ga_split | apply cd_split | apply gd_split) <;> intro hc <;> (try (simp -implicitDefEqProofs (maxSteps := 2000000) (disch := first | omega | (simp only [vz_push, vz_set, drop_size]; first | done | omega)) only [push_cast, seval, f39N0, f39N1, f27N0, hc])) <;> (try (exfalso; omega))) | refine VC_pure (w) ?_ | (simp -implicitDefEqProofs (maxSteps := 2000000) (disch := first | omega | (simp only [vz_push, vz_set, drop_size]; first | done | omega)) only [push_cast, seval, f39N0, f39N1, f27N0]))
    exact ⟨by (repeat first | assumption | exact KeepA.refl _ | apply KeepA.push | refine KeepA.set ?_ (by first | omega | (simp only [vz_push, vz_set, drop_size]; omega) | (have h9 := KeepA.size_le (by assumption); (try simp only [vz_push, vz_set, drop_size] at *); omega)) _ | refine KeepA.drop ?_ (by first | omega | (simp only [vz_push, vz_set, drop_size]; omega) | (have h9 := KeepA.size_le (by assumption); (try simp only [vz_push, vz_set, drop_size] at *); omega)) | refine KeepA.trans ?_ (by assumption)), Se.firm (Firm.tup (all_cons (Firm.c _) (all_cons (Firm.c _) (all_cons (Firm.c _) all_nil))))⟩
theorem rtextH_ok (h : Hs) (hn : Lt h) (hr : (h.all fun l => l.all rightS) = true) : PC (XK k) 9 [LH h] (tx (textH h)) := by
  refine PC_of fun st => ?_
  refine f9_in (hk _ (by decide) (by decide)) ?_
  have h1 := hn.1
  (try (simp -implicitDefEqProofs (maxSteps := 2000000) (disch := first | omega | (simp only [vz_push, vz_set, drop_size]; first | done | omega)) only [push_cast, seval, f9N0, f9N1])) <;> (repeat' ((first | apply ga_dec | apply ga_ndec | apply cd_dec | apply cd_ndec | apply gd_dec | apply gd_ndec | apply ga_split | apply cd_split | apply gd_split) <;> intro hc <;> try (simp -implicitDefEqProofs (maxSteps := 2000000) (disch := first | omega | (simp only [vz_push, vz_set, drop_size]; first | done | omega)) only [push_cast, seval, f9N0, f9N1, hc])))
  refine VW_iter (fun m ρ s' => ∃ (i : Nat) (v : AV), m = h.length - i ∧ i ≤ h.length ∧ ρ.get 0 = LH h ∧ ρ.get 3 = v ∧ ρ.get 4 = .c (.int .i64 i) ∧ Gw st s' 5 1 v (textH (h.take i)).length ((textH (h.take i)).map cB) ∧ KeepA st s') h.length
    ⟨0, _, rfl, Nat.zero_le _, by (((try simp -implicitDefEqProofs only [eA_tmp, eA_const, AEnv.get_set, ofA_get, List.getD_cons_zero, List.getD_cons_succ, ↓reduceIte, reduceCtorEq, Nat.reduceEqDiff]); try (first | (with_reducible assumption) | (with_reducible rfl) | (congr 2 <;> omega) | rfl))), by (((try simp -implicitDefEqProofs only [eA_tmp, eA_const, AEnv.get_set, ofA_get, List.getD_cons_zero, List.getD_cons_succ, ↓reduceIte, reduceCtorEq, Nat.reduceEqDiff]); try (first | (with_reducible assumption) | (with_reducible rfl) | (congr 2 <;> omega) | rfl))), by (((try simp -implicitDefEqProofs only [eA_tmp, eA_const, AEnv.get_set, ofA_get, List.getD_cons_zero, List.getD_cons_succ, ↓reduceIte, reduceCtorEq, Nat.reduceEqDiff]); try (first | (with_reducible assumption) | (with_reducible rfl) | (congr 2 <;> omega) | rfl))), .nil, by (repeat first | assumption | exact KeepA.refl _ | apply KeepA.push | refine KeepA.set ?_ (by first | omega | (simp only [vz_push, vz_set, drop_size]; omega) | (have h9 := KeepA.size_le (by assumption); (try simp only [vz_push, vz_set, drop_size] at *); omega)) _ | refine KeepA.drop ?_ (by first | omega | (simp only [vz_push, vz_set, drop_size]; omega) | (have h9 := KeepA.size_le (by assumption); (try simp only [vz_push, vz_set, drop_size] at *); omega)) | refine KeepA.trans ?_ (by assumption))⟩ ?_
  rintro m ρ s' ⟨i, v, rfl, hi, g0, g3, g4, j1, j2⟩
  have hll : (textH (h.take i)).length ≤ 481 * 30 := by
    have := textH_len (h := h.take i) fun l hl => ⟨hn.2 l (List.mem_of_mem_take hl), rightS_all (List.all_eq_true.1 hr l (List.mem_of_mem_take hl))⟩
    rw [List.length_take] at this
    omega
  by_cases c1 : i < h.length
  · have he := List.getElem?_eq_getElem c1
    have hm := hn.2 _ (List.getElem_mem c1)
    have hl : h[i].all rightS = true := List.all_eq_true.1 hr _ (List.getElem_mem c1)
    generalize h[i] = l at he hm hl
    have w := rline_ok hk l (rightS_all hl) (by omega)
    have hel := (escL_len (rightS_all hl)).2
    rw [List.length_map] at hel
    have hsn : textH (h.take (i + 1)) = textH (h.take i) ++ escL (l.map (·.1)) ++ [10] := by rw [take_snoc he, textH_snoc, List.append_assoc]
    generalize escL (l.map (·.1)) = t at *
    have hb1 : (bytesOut t).length = t.length := by simp [bytesOut]
    have hb2 : List.map AV.c (List.take t.length (bytesOut t)) = t.map cB := by
      rw [List.take_of_length_le (by omega)]
      simp [bytesOut, cB]
    have hb3 : (t.length ≤ t.length) = True := eq_true (Nat.le_refl _)
    repeat' (first | ((first | apply ga_dec | apply ga_ndec | apply cd_dec | apply cd_ndec | apply gd_dec | apply gd_ndec | apply ga_split | apply cd_split | apply gd_split) <;> intro hc <;> (try (simp -implicitDefEqProofs (maxSteps := 2000000) (disch := first | omega | (simp only [vz_push, vz_set, drop_size]; first | done | omega)) only [push_cast, seval, f9N0, f9N1, hc, g0, g3, g4, he, eH, hb1, hb2, hb3])) <;> (try (exfalso; omega))) | refine VC_pure (w) ?_ | (simp -implicitDefEqProofs (maxSteps := 2000000) (disch := first | omega | (simp only [vz_push, vz_set, drop_size]; first | done | omega)) only [push_cast, seval, f9N0, f9N1, g0, g3, g4, he, eH, hb1, hb2, hb3]))
    all_goals (try (exfalso; omega))
    refine Gw.step (sz := 1) (j1.push _) (by (repeat first | assumption | exact KeepA.refl _ | apply KeepA.push | refine KeepA.set ?_ (by first | omega | (simp only [vz_push, vz_set, drop_size]; omega) | (have h9 := KeepA.size_le (by assumption); (try simp only [vz_push, vz_set, drop_size] at *); omega)) _ | refine KeepA.drop ?_ (by first | omega | (simp only [vz_push, vz_set, drop_size]; omega) | (have h9 := KeepA.size_le (by assumption); (try simp only [vz_push, vz_set, drop_size] at *); omega)) | refine KeepA.trans ?_ (by assumption))) rfl (by simp) (by simp [cB, oneA, Value.oneCell']) (room_ok (by constructor <;> (try dsimp only) <;> omega)) ?_
    intro v2 s2 hg2 _ _ hkp
    (try (simp -implicitDefEqProofs (maxSteps := 2000000) (disch := first | omega | (simp only [vz_push, vz_set, drop_size]; first | done | omega)) only [push_cast, seval, f9N0, f9N1, g0, g3, g4])) <;> (repeat' ((first | apply ga_dec | apply ga_ndec | apply cd_dec | apply cd_ndec | apply gd_dec | apply gd_ndec | apply ga_split | apply cd_split | apply gd_split) <;> intro hc <;> try (simp -implicitDefEqProofs (maxSteps := 2000000) (disch := first | omega | (simp only [vz_push, vz_set, drop_size]; first | done | omega)) only [push_cast, seval, f9N0, f9N1, hc, g0, g3, g4])))
    refine Gw.step (sz := 1) (hg2.push _) (by (repeat first | assumption | exact KeepA.refl _ | apply KeepA.push | refine KeepA.set ?_ (by first | omega | (simp only [vz_push, vz_set, drop_size]; omega) | (have h9 := KeepA.size_le (by assumption); (try simp only [vz_push, vz_set, drop_size] at *); omega)) _ | refine KeepA.drop ?_ (by first | omega | (simp only [vz_push, vz_set, drop_size]; omega) | (have h9 := KeepA.size_le (by assumption); (try simp only [vz_push, vz_set, drop_size] at *); omega)) | refine KeepA.trans ?_ (by assumption))) rfl (by simp) (by simp [cB, oneA, Value.oneCell']) (room_ok (by constructor <;> (try dsimp only) <;> omega)) ?_
    intro v3 s3 hg3 _ _ hkp3
    (try (simp -implicitDefEqProofs (maxSteps := 2000000) (disch := first | omega | (simp only [vz_push, vz_set, drop_size]; first | done | omega)) only [push_cast, seval, f9N0, f9N1, g0, g3, g4])) <;> (repeat' ((first | apply ga_dec | apply ga_ndec | apply cd_dec | apply cd_ndec | apply gd_dec | apply gd_ndec | apply ga_split | apply cd_split | apply gd_split) <;> intro hc <;> try (simp -implicitDefEqProofs (maxSteps := 2000000) (disch := first | omega | (simp only [vz_push, vz_set, drop_size]; first | done | omega)) only [push_cast, seval, f9N0, f9N1, hc, g0, g3, g4])))
    refine ⟨_ - (i + 1), by omega, i + 1, v3, rfl, by omega, rfl, congrArg (fun z => AV.c (.int .i64 z)) (by omega), ?_, hkp3⟩
    rw [hsn, List.map_append, List.map_append, List.length_append, List.length_append]
    exact hg3
  · have hi2 : i = h.length := by omega
    subst hi2
    rw [List.take_length] at j1
    have ht := j1.text (X := XK k) ty43 ty9 rfl rfl und5
    simp -implicitDefEqProofs (maxSteps := 2000000) (disch := first | omega | (simp only [vz_push, vz_set, drop_size]; first | done | omega)) only [push_cast, seval, f9N0, f9N1, g4] at ht
    repeat' (first | ((first | apply ga_dec | apply ga_ndec | apply cd_dec | apply cd_ndec | apply gd_dec | apply gd_ndec | apply ga_split | apply cd_split | apply gd_split) <;> intro hc <;> (try (simp -implicitDefEqProofs (maxSteps := 2000000) (disch := first | omega | (simp only [vz_push, vz_set, drop_size]; first | done | omega)) only [push_cast, seval, f9N0, f9N1, hc, g0, g3, g4, ht])) <;> (try (exfalso; omega))) | (simp -implicitDefEqProofs (maxSteps := 2000000) (disch := first | omega | (simp only [vz_push, vz_set, drop_size]; first | done | omega)) only [push_cast, seval, f9N0, f9N1, g0, g3, g4, ht]))
    all_goals (try (exfalso; omega))
    exact out_tx (by (repeat first | assumption | exact KeepA.refl _ | apply KeepA.push | refine KeepA.set ?_ (by first | omega | (simp only [vz_push, vz_set, drop_size]; omega) | (have h9 := KeepA.size_le (by assumption); (try simp only [vz_push, vz_set, drop_size] at *); omega)) _ | refine KeepA.drop ?_ (by first | omega | (simp only [vz_push, vz_set, drop_size]; omega) | (have h9 := KeepA.size_le (by assumption); (try simp only [vz_push, vz_set, drop_size] at *); omega)) | refine KeepA.trans ?_ (by assumption))) rfl
end
end Go.Proofs.Yticllcglldbffaa.Ab
