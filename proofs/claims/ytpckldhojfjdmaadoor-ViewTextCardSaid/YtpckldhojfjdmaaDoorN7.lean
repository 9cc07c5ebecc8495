/- The law ViewMaps. -/
import Derived.Test.YtpckldhojfjdmaaDoorN6
namespace Go.Proofs.YtpckldhojfjdmaaDoor.Ab
open Go.Proofs
set_option maxRecDepth 100000
set_option maxHeartbeats 4000000
set_option linter.unusedSimpArgs false
set_option linter.unusedVariables false
set_option linter.unnecessarySimpa false
set_option linter.unusedSectionVars false
theorem tellC_own (a own v : Int) : ∀ (l : List UInt8) (i : Nat), ∀ c ∈ tellC a own v i l, c.2.2.1 = own
  | [], i, c, h => by cases h
  | d :: l, i, c, h => by
    rw [tellC] at h
    rcases List.mem_cons.1 h with rfl | h
    · rfl
    · exact tellC_own a own v l (i + 1) c h
theorem cellsS_own (p : Int × Int) (own : Int) : ∀ c ∈ cellsS p own, c.2.2.1 = own := by
  intro c hc
  unfold cellsS at hc
  split at hc
  · exact tellC_own _ _ _ _ _ c hc
  · split at hc
    · cases hc
    · rcases List.mem_cons.1 hc with rfl | hc
      · rfl
      · split at hc
        · simp at hc; subst hc; rfl
        · cases hc
theorem promptC_own (l : List (Int × Int)) : ∀ c ∈ promptC l, c.2.2.1 = -1 := by
  intro c hc
  unfold promptC at hc
  obtain ⟨p, _, hc⟩ := List.mem_flatMap.1 hc
  exact cellsS_own p _ c hc
theorem lineC_own : ∀ (l : List (Int × Int)) (i : Nat), ∀ c ∈ lineC i l, (i : Int) ≤ c.2.2.1 ∧ c.2.2.1 < ((i + l.length : Nat) : Int)
  | [], i, c, h => by cases h
  | p :: l, i, c, h => by
    rw [lineC] at h
    rcases List.mem_append.1 h with h | h
    · have := cellsS_own p _ c h
      rw [List.length_cons]
      omega
    · have := lineC_own l (i + 1) c h
      rw [List.length_cons]
      omega
theorem lineC_append : ∀ (l m : List (Int × Int)) (i : Nat), lineC i (l ++ m) = lineC i l ++ lineC (i + l.length) m
  | [], m, i => by simp [lineC]
  | p :: l, m, i => by
    rw [List.cons_append, lineC, lineC, lineC_append l m (i + 1), List.append_assoc, List.length_cons, show i + 1 + l.length = i + (l.length + 1) by omega]
theorem firstO_app {i : Int} : ∀ {l : List Cl} (m : List Cl), (∀ c ∈ l, c.2.2.1 < i) → firstO i (l ++ m) = l.length + firstO i m
  | [], m, _ => by simp
  | c :: l, m, h => by
    have h1 := h c (by simp)
    have := firstO_app (l := l) m fun d hd => h d (by simp [hd])
    show (if i ≤ c.2.2.1 then 0 else firstO i (l ++ m) + 1) = _
    rw [if_neg (by omega), this, List.length_cons]
    omega
theorem firstO_zero {i : Int} {l : List Cl} (h : ∀ c ∈ l, i ≤ c.2.2.1) : firstO i l = 0 := by
  cases l with
  | nil => rfl
  | cons c l =>
    show (if i ≤ c.2.2.1 then 0 else _) = 0
    rw [if_pos (h c (by simp))]
/-- Where a sign's cells begin. -/
theorem firstO_view (a b : List (Int × Int)) (i : Nat) (h : i ≤ b.length) : firstO i (viewC a b) = (promptC a).length + (lineC 0 (b.take i)).length := by
  unfold viewC
  rw [firstO_app _ fun c hc => by have := promptC_own a c hc; omega]
  conv => lhs; rw [← List.take_append_drop i b]
  rw [lineC_append, firstO_app _ fun c hc => by
    have := (lineC_own _ _ c hc).2
    rw [List.length_take] at this
    omega, firstO_zero fun c hc => by
    have := (lineC_own _ _ c hc).1
    rw [List.length_take] at this
    omega]
  omega
theorem view_at (a b : List (Int × Int)) (i m : Nat) (x : Int × Int) (hx : b[i]? = some x) (h1 : (promptC a).length + (lineC 0 (b.take i)).length ≤ m) (h2 : m < (promptC a).length + (lineC 0 (b.take (i + 1))).length) : ∃ c, (viewC a b)[m]? = some c ∧ c.2.2.1 = (i : Int) := by
  have hi : i < b.length := (List.getElem?_eq_some_iff.1 hx).1
  have e1 : lineC 0 (b.take (i + 1)) = lineC 0 (b.take i) ++ cellsS x i := by rw [take_snoc hx, lineC_snoc, List.length_take, Nat.min_eq_left (by omega), Nat.zero_add]
  have e2 : lineC 0 b = lineC 0 (b.take (i + 1)) ++ lineC (i + 1) (b.drop (i + 1)) := by
    conv => lhs; rw [← List.take_append_drop (i + 1) b]
    rw [lineC_append, List.length_take, Nat.min_eq_left (by omega), Nat.zero_add]
  rw [e1, List.length_append] at h2
  have hm : m - ((promptC a).length + (lineC 0 (b.take i)).length) < (cellsS x i).length := by omega
  refine ⟨(cellsS x i)[m - ((promptC a).length + (lineC 0 (b.take i)).length)], ?_, cellsS_own x _ _ (List.getElem_mem hm)⟩
  unfold viewC
  rw [e2, e1, List.append_assoc, ← List.append_assoc, List.getElem?_append_right (by rw [List.length_append]; exact h1), List.getElem?_append_left (by rw [List.length_append]; exact hm), List.length_append]
  exact List.getElem?_eq_getElem hm
theorem colsV_pos {v : Int} (h : right v = true) : 1 ≤ colsV v := by
  have hc := cls v
  have h1 := hc.2.2.2.2.2.2.2.2 h
  unfold colsV
  cases hd : dangerV v
  · have hd2 := hd
    simp only [dangerV, decide_eq_false_iff_not] at hd2
    exact (widthV_rng v h1 (by omega)).1
  · have := danger_text v hd
    simp; omega
section
variable {k : Nat → List Value → Option Value} (hk : ∀ f, f ≠ 95 → Open k f)
include hk
theorem own_ok (l : List Cl) (m : Nat) (x : Cl) (hx : l[m]? = some x) (hl : l.length < 1000000) : PC (XK k) 50 [LC l, .c (.int .i64 m)] (.c (.int .i64 x.2.2.1)) := by
  refine PC_of fun s => ?_
  refine f50_in (hk _ (by decide)) ?_
  have hm : m < l.length := (List.getElem?_eq_some_iff.1 hx).1
  have e0 : (if (0 : Int) > (m : Int) then (0 : Int) else (m : Int)) = (m : Int) := if_neg (by omega)
  repeat' (first | ((first | apply ga_dec | apply ga_ndec | apply cd_dec | apply cd_ndec | apply gd_dec | apply gd_ndec | apply ga_split | apply cd_split | apply gd_split) <;> intro hc <;> (try (simp -implicitDefEqProofs (maxSteps := 2000000) (disch := first | omega | (simp only [vz_push, vz_set, drop_size]; done) | (simp only [vz_push, vz_set, drop_size]; omega)) only [push_cast, seval, f50N0, f50N1, hc, hx, eC, e0])) <;> (try (exfalso; omega))) | (simp -implicitDefEqProofs (maxSteps := 2000000) (disch := first | omega | (simp only [vz_push, vz_set, drop_size]; done) | (simp only [vz_push, vz_set, drop_size]; omega)) only [push_cast, seval, f50N0, f50N1, hx, eC, e0]))
  exact out_int (by (repeat first | assumption | exact KeepA.refl _ | apply KeepA.push | refine KeepA.set ?_ (by first | omega | (simp only [vz_push, vz_set, drop_size]; omega) | (have h9 := KeepA.size_le (by assumption); (try simp only [vz_push, vz_set, drop_size] at *); omega)) _ | refine KeepA.drop ?_ (by first | omega | (simp only [vz_push, vz_set, drop_size]; omega) | (have h9 := KeepA.size_le (by assumption); (try simp only [vz_push, vz_set, drop_size] at *); omega)) | refine KeepA.trans ?_ (by assumption))) rfl
theorem viewMaps_ok (hrep : ∀ d : Nat, d ≤ 16 → PC (XK k) 95 [tx [48], .c (.int .i64 d)] (tx (List.replicate d 48))) (haw : k 44 [] = some (.bool true)) (a b : List (Int × Int)) (s : VS) :
    VC (XK k) 11 [LS a, LS b] s fun r _ => r = .c (.bool true) := by
  have haw' : ∀ {vs : VS} {Q : AV → VS → Prop}, Q (.c (.bool true)) vs → VC (XK k) 44 [] vs Q := fun h => VC_known (ws := []) (v := .bool true) haw rfl rfl h
  refine f11_in (hk _ (by decide)) ?_
  by_cases hab : a.length ≤ 40 ∧ b.length ≤ 60
  · cases q1 : a.all rightS
    · repeat' (first | ((first | apply ga_dec | apply ga_ndec | apply cd_dec | apply cd_ndec | apply gd_dec | apply gd_ndec | apply ga_split | apply cd_split | apply gd_split) <;> intro hc <;> (try (simp -implicitDefEqProofs (maxSteps := 2000000) (disch := first | omega | (simp only [vz_push, vz_set, drop_size]; done) | (simp only [vz_push, vz_set, drop_size]; omega)) only [push_cast, seval, f11N0, f11N1, f11N2, f11N3, f11N4, f11N5, hc, q1])) <;> (try (exfalso; omega))) | refine haw' ?_ | refine VC_pure (all_ok hk a (by omega)) ?_ | refine VC_pure (all_ok hk b (by omega)) ?_ | (simp -implicitDefEqProofs (maxSteps := 2000000) (disch := first | omega | (simp only [vz_push, vz_set, drop_size]; done) | (simp only [vz_push, vz_set, drop_size]; omega)) only [push_cast, seval, f11N0, f11N1, f11N2, f11N3, f11N4, f11N5, q1]))
    · cases q2 : b.all rightS
      · repeat' (first | ((first | apply ga_dec | apply ga_ndec | apply cd_dec | apply cd_ndec | apply gd_dec | apply gd_ndec | apply ga_split | apply cd_split | apply gd_split) <;> intro hc <;> (try (simp -implicitDefEqProofs (maxSteps := 2000000) (disch := first | omega | (simp only [vz_push, vz_set, drop_size]; done) | (simp only [vz_push, vz_set, drop_size]; omega)) only [push_cast, seval, f11N0, f11N1, f11N2, f11N3, f11N4, f11N5, hc, q1, q2])) <;> (try (exfalso; omega))) | refine haw' ?_ | refine VC_pure (all_ok hk a (by omega)) ?_ | refine VC_pure (all_ok hk b (by omega)) ?_ | (simp -implicitDefEqProofs (maxSteps := 2000000) (disch := first | omega | (simp only [vz_push, vz_set, drop_size]; done) | (simp only [vz_push, vz_set, drop_size]; omega)) only [push_cast, seval, f11N0, f11N1, f11N2, f11N3, f11N4, f11N5, q1, q2]))
      · have h1 := vof_ok hk hrep a b (by omega) (by omega)
        rw [if_pos ⟨q1, q2⟩, if_pos ⟨q1, q2⟩] at h1
        have hpl := promptC_len a
        have hll := lineC_len b 0
        have hlen : (viewC a b).length = (promptC a).length + (lineC 0 b).length := by unfold viewC; rw [List.length_append]
        have f0 : firstO 0 (viewC a b) = (promptC a).length := by
          have := firstO_view a b 0 (Nat.zero_le _)
          simpa [lineC] using this
        have fn : firstO b.length (viewC a b) = (viewC a b).length := by
          have := firstO_view a b b.length (Nat.le_refl _)
          rw [List.take_length] at this
          rw [this, hlen]
        have r1 := colsSum_rng a
        have r2 := colsSum_rng b
        have hv : (viewC a b).length < 100000 := by omega
        have fi := fun i (h : i ≤ b.length) => firstO_view a b i h
        have va := fun i m x => view_at a b i m x
        generalize hcs : viewC a b = cs at *
        repeat' (first | ((first | apply ga_dec | apply ga_ndec | apply cd_dec | apply cd_ndec | apply gd_dec | apply gd_ndec | apply ga_split | apply cd_split | apply gd_split) <;> intro hc <;> (try (simp -implicitDefEqProofs (maxSteps := 2000000) (disch := first | omega | (simp only [vz_push, vz_set, drop_size]; done) | (simp only [vz_push, vz_set, drop_size]; omega)) only [push_cast, seval, f11N0, f11N1, f11N2, f11N3, f11N4, f11N5, hc, q1, q2, f0, fn, hpl])) <;> (try (exfalso; omega))) | refine VC_pure (h1) ?_ | refine haw' ?_ | refine VC_pure (all_ok hk a (by omega)) ?_ | refine VC_pure (all_ok hk b (by omega)) ?_ | refine VC_pure (first_ok hk cs _ (by omega)) ?_ | refine VC_pure (vcols_ok hk hrep _ (by omega)) ?_ | (simp -implicitDefEqProofs (maxSteps := 2000000) (disch := first | omega | (simp only [vz_push, vz_set, drop_size]; done) | (simp only [vz_push, vz_set, drop_size]; omega)) only [push_cast, seval, f11N0, f11N1, f11N2, f11N3, f11N4, f11N5, q1, q2, f0, fn, hpl]))
        refine VW_iter (fun m ρ s' => ∃ j : Nat, m = b.length - j ∧ j ≤ b.length ∧ ρ.get 1 = LS b ∧ ρ.get 5 = LC cs ∧ ρ.get 7 = .c (.int .i64 j)) (b.length) ⟨0, rfl, Nat.zero_le _, by (((try simp -implicitDefEqProofs only [eA_tmp, eA_const, AEnv.get_set, ofA_get, List.getD_cons_zero, List.getD_cons_succ, ↓reduceIte, reduceCtorEq, Nat.reduceEqDiff]); try (first | (with_reducible assumption) | (with_reducible rfl) | (congr 2 <;> omega) | rfl))), by (((try simp -implicitDefEqProofs only [eA_tmp, eA_const, AEnv.get_set, ofA_get, List.getD_cons_zero, List.getD_cons_succ, ↓reduceIte, reduceCtorEq, Nat.reduceEqDiff]); try (first | (with_reducible assumption) | (with_reducible rfl) | (congr 2 <;> omega) | rfl))), by (((try simp -implicitDefEqProofs only [eA_tmp, eA_const, AEnv.get_set, ofA_get, List.getD_cons_zero, List.getD_cons_succ, ↓reduceIte, reduceCtorEq, Nat.reduceEqDiff]); try (first | (with_reducible assumption) | (with_reducible rfl) | (congr 2 <;> omega) | rfl)))⟩ ?_
        rintro m ρ s' ⟨j, rfl, hj, g1, g5, g7⟩
        simp -implicitDefEqProofs (maxSteps := 2000000) (disch := first | omega | (simp only [vz_push, vz_set, drop_size]; done) | (simp only [vz_push, vz_set, drop_size]; omega)) only [push_cast, seval, f11N0, f11N1, f11N2, f11N3, f11N4, f11N5, g1, g7]
        refine cd_dec (fun hc => ?_) (fun hc => ?_)
        · obtain ⟨x, hx⟩ : ∃ x, b[j]? = some x := ⟨_, List.getElem?_eq_getElem (by omega)⟩
          have hrx : right x.1 = true := by
            have := List.all_eq_true.1 q2 x (List.mem_of_getElem? hx)
            unfold rightS at this
            simp only [Bool.and_eq_true] at this
            exact this.1.1
          have hst : lineC 0 (b.take (j + 1)) = lineC 0 (b.take j) ++ cellsS x (j : Int) := by rw [take_snoc hx, lineC_snoc, List.length_take, Nat.min_eq_left (by omega), Nat.zero_add]
          have hcl := cellsS_len x j
          have hcp := colsV_pos hrx
          have hc80 := colsV_rng x.1
          have fj := fi j (by omega)
          have fj1 := fi (j + 1) (by omega)
          rw [hst, List.length_append] at fj1
          have fj1' : firstO ((j : Int) + 1) cs = (promptC a).length + ((lineC 0 (b.take j)).length + (cellsS x j).length) := fj1
          have hvj := va j
          rw [hst, List.length_append] at hvj
          have hll2 := lineC_le (b.take j) 0
          rw [List.length_take] at hll2
          generalize (lineC 0 (b.take j)).length = L at *
          generalize (promptC a).length = Pn at *
          have hcl2 : ((Pn + (L + (cellsS x j).length) : Nat) : Int) - ((Pn + L : Nat) : Int) = colsV x.1 := by omega
          repeat' (first | ((first | apply ga_dec | apply ga_ndec | apply cd_dec | apply cd_ndec | apply gd_dec | apply gd_ndec | apply ga_split | apply cd_split | apply gd_split) <;> intro hc <;> (try (simp -implicitDefEqProofs (maxSteps := 2000000) (disch := first | omega | (simp only [vz_push, vz_set, drop_size]; done) | (simp only [vz_push, vz_set, drop_size]; omega)) only [push_cast, seval, f11N0, f11N1, f11N2, f11N3, f11N4, f11N5, hc, g1, g5, g7, hx, eS, fj, fj1'])) <;> (try (exfalso; omega))) | refine VC_pure (first_ok hk cs _ (by omega)) ?_ | refine VC_pure (rcols_ok hk _) ?_ | (simp -implicitDefEqProofs (maxSteps := 2000000) (disch := first | omega | (simp only [vz_push, vz_set, drop_size]; done) | (simp only [vz_push, vz_set, drop_size]; omega)) only [push_cast, seval, f11N0, f11N1, f11N2, f11N3, f11N4, f11N5, g1, g5, g7, hx, eS, fj, fj1']))
          refine VW_iter (fun m ρ s' => ∃ q : Nat, m = (cellsS x j).length - q ∧ q ≤ (cellsS x j).length ∧ ρ.get 1 = LS b ∧ ρ.get 5 = LC cs ∧ ρ.get 7 = .c (.int .i64 j) ∧ ρ.get 9 = .c (.int .i64 ((Pn + (L + (cellsS x j).length) : Nat) : Int)) ∧ ρ.get 10 = .c (.int .i64 ((Pn + L + q : Nat) : Int))) ((cellsS x j).length) ⟨0, rfl, Nat.zero_le _, by (((try simp -implicitDefEqProofs only [eA_tmp, eA_const, AEnv.get_set, ofA_get, List.getD_cons_zero, List.getD_cons_succ, ↓reduceIte, reduceCtorEq, Nat.reduceEqDiff]); try (first | (with_reducible assumption) | (with_reducible rfl) | (congr 2 <;> omega) | rfl))), by (((try simp -implicitDefEqProofs only [eA_tmp, eA_const, AEnv.get_set, ofA_get, List.getD_cons_zero, List.getD_cons_succ, ↓reduceIte, reduceCtorEq, Nat.reduceEqDiff]); try (first | (with_reducible assumption) | (with_reducible rfl) | (congr 2 <;> omega) | rfl))), by (((try simp -implicitDefEqProofs only [eA_tmp, eA_const, AEnv.get_set, ofA_get, List.getD_cons_zero, List.getD_cons_succ, ↓reduceIte, reduceCtorEq, Nat.reduceEqDiff]); try (first | (with_reducible assumption) | (with_reducible rfl) | (congr 2 <;> omega) | rfl))), by (((try simp -implicitDefEqProofs only [eA_tmp, eA_const, AEnv.get_set, ofA_get, List.getD_cons_zero, List.getD_cons_succ, ↓reduceIte, reduceCtorEq, Nat.reduceEqDiff]); try (first | (with_reducible assumption) | (with_reducible rfl) | (congr 2 <;> omega) | rfl))), by (((try simp -implicitDefEqProofs only [eA_tmp, eA_const, AEnv.get_set, ofA_get, List.getD_cons_zero, List.getD_cons_succ, ↓reduceIte, reduceCtorEq, Nat.reduceEqDiff]); try (first | (with_reducible assumption) | (with_reducible rfl) | (congr 2 <;> omega) | rfl)))⟩ ?_
          rintro m ρ s' ⟨q, rfl, hq, g1, g5, g7, g9, g10⟩
          simp -implicitDefEqProofs (maxSteps := 2000000) (disch := first | omega | (simp only [vz_push, vz_set, drop_size]; done) | (simp only [vz_push, vz_set, drop_size]; omega)) only [push_cast, seval, f11N0, f11N1, f11N2, f11N3, f11N4, f11N5, g9, g10]
          refine cd_dec (fun hc2 => ?_) (fun hc2 => ?_)
          · obtain ⟨y, hy, hy2⟩ := hvj (Pn + L + q) x hx (by omega) (by omega)
            have ho := own_ok hk cs _ y hy (by omega)
            rw [hy2] at ho
            simp only [Int.natCast_add] at ho
            repeat' (first | ((first | apply ga_dec | apply ga_ndec | apply cd_dec | apply cd_ndec | apply gd_dec | apply gd_ndec | apply ga_split | apply cd_split | apply gd_split) <;> intro hc <;> (try (simp -implicitDefEqProofs (maxSteps := 2000000) (disch := first | omega | (simp only [vz_push, vz_set, drop_size]; done) | (simp only [vz_push, vz_set, drop_size]; omega)) only [push_cast, seval, f11N0, f11N1, f11N2, f11N3, f11N4, f11N5, hc, g1, g5, g7, g9, g10])) <;> (try (exfalso; omega))) | refine VC_pure (ho) ?_ | (simp -implicitDefEqProofs (maxSteps := 2000000) (disch := first | omega | (simp only [vz_push, vz_set, drop_size]; done) | (simp only [vz_push, vz_set, drop_size]; omega)) only [push_cast, seval, f11N0, f11N1, f11N2, f11N3, f11N4, f11N5, g1, g5, g7, g9, g10]))
            refine ⟨_ - (q + 1), by omega, q + 1, rfl, by omega, ?_⟩ <;> (try simp only [Int.natCast_add, Int.natCast_one, cast_lit, and_true, true_and, eq_self])
            congr 2
          · repeat' (first | ((first | apply ga_dec | apply ga_ndec | apply cd_dec | apply cd_ndec | apply gd_dec | apply gd_ndec | apply ga_split | apply cd_split | apply gd_split) <;> intro hc <;> (try (simp -implicitDefEqProofs (maxSteps := 2000000) (disch := first | omega | (simp only [vz_push, vz_set, drop_size]; done) | (simp only [vz_push, vz_set, drop_size]; omega)) only [push_cast, seval, f11N0, f11N1, f11N2, f11N3, f11N4, f11N5, hc, g1, g5, g7])) <;> (try (exfalso; omega))) | (simp -implicitDefEqProofs (maxSteps := 2000000) (disch := first | omega | (simp only [vz_push, vz_set, drop_size]; done) | (simp only [vz_push, vz_set, drop_size]; omega)) only [push_cast, seval, f11N0, f11N1, f11N2, f11N3, f11N4, f11N5, g1, g5, g7]))
            refine ⟨_ - (j + 1), by omega, j + 1, rfl, by omega, ?_⟩ <;> (try simp only [Int.natCast_add, Int.natCast_one, cast_lit, and_true, true_and, eq_self])
        · repeat' (first | ((first | apply ga_dec | apply ga_ndec | apply cd_dec | apply cd_ndec | apply gd_dec | apply gd_ndec | apply ga_split | apply cd_split | apply gd_split) <;> intro hc <;> (try (simp -implicitDefEqProofs (maxSteps := 2000000) (disch := first | omega | (simp only [vz_push, vz_set, drop_size]; done) | (simp only [vz_push, vz_set, drop_size]; omega)) only [push_cast, seval, f11N0, f11N1, f11N2, f11N3, f11N4, f11N5, hc])) <;> (try (exfalso; omega))) | refine haw' ?_ | (simp -implicitDefEqProofs (maxSteps := 2000000) (disch := first | omega | (simp only [vz_push, vz_set, drop_size]; done) | (simp only [vz_push, vz_set, drop_size]; omega)) only [push_cast, seval, f11N0, f11N1, f11N2, f11N3, f11N4, f11N5]))
  · repeat' (first | ((first | apply ga_dec | apply ga_ndec | apply cd_dec | apply cd_ndec | apply gd_dec | apply gd_ndec | apply ga_split | apply cd_split | apply gd_split) <;> intro hc <;> (try (simp -implicitDefEqProofs (maxSteps := 2000000) (disch := first | omega | (simp only [vz_push, vz_set, drop_size]; done) | (simp only [vz_push, vz_set, drop_size]; omega)) only [push_cast, seval, f11N0, f11N1, f11N2, f11N3, f11N4, f11N5, hc])) <;> (try (exfalso; omega))) | refine haw' ?_ | (simp -implicitDefEqProofs (maxSteps := 2000000) (disch := first | omega | (simp only [vz_push, vz_set, drop_size]; done) | (simp only [vz_push, vz_set, drop_size]; omega)) only [push_cast, seval, f11N0, f11N1, f11N2, f11N3, f11N4, f11N5]))
end
end Go.Proofs.YtpckldhojfjdmaaDoor.Ab
