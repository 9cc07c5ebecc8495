/- The laws ShowCells, ShowCols, ShowApart. -/
import Derived.Test.YtpckldhojfjdmaaDoorN4
namespace Go.Proofs.YtpckldhojfjdmaaDoor.Ab
open Go.Proofs
set_option maxRecDepth 100000
set_option maxHeartbeats 4000000
set_option linter.unusedSimpArgs false
set_option linter.unusedVariables false
set_option linter.unnecessarySimpa false
set_option linter.unusedSectionVars false
theorem digs16_len : ∀ (k n : Nat), n < 16 ^ (k + 1) → (digs 16 n).length ≤ k + 1
  | k, n, h => by
    by_cases hbn : 16 ≤ n
    · rw [digs_ge (by omega) hbn, List.length_append, List.length_singleton]
      match k, h with
      | 0, h => omega
      | k + 1, h =>
        have h2 : n / 16 < 16 ^ (k + 1) := by
          rw [Nat.div_lt_iff_lt_mul (by omega), ← Nat.pow_succ]
          exact h
        have := digs16_len k (n / 16) h2
        omega
    · rw [digs_lt (by omega)]; simp
theorem hexP_len16 (n l k : Nat) (h : n < 16 ^ (k + 1)) (hl : l ≤ k + 1) : l ≤ (hexP n l).length ∧ (hexP n l).length ≤ k + 1 := by
  have := digs16_len k n h
  unfold hexP
  rw [List.length_append, List.length_replicate]
  omega
theorem widthV_rng (v : Int) (h : 1 ≤ classOf v) (h2 : classOf v ≤ 3) : 1 ≤ widthV v ∧ widthV v ≤ 2 := by
  unfold widthV
  (repeat' split) <;> omega
theorem cellsS_len (p : Int × Int) (own : Int) : ((cellsS p own).length : Int) = colsV p.1 := by
  have hc := cls p.1
  unfold cellsS colsV
  cases hd : dangerV p.1
  · simp only [dangerV, decide_eq_false_iff_not] at hd
    unfold widthV
    by_cases h0 : classOf p.1 = 0
    · simp [h0]
    · by_cases h2 : classOf p.1 = 2
      · simp [h2]
      · have : classOf p.1 = 1 ∨ classOf p.1 = 3 := by omega
        simp [h0, h2, this]
  · simp [tellC_len]
theorem danger_text (v : Int) (h : dangerV v = true) : 2 ≤ (textV v).length ∧ (textV v).length ≤ 10 := by
  obtain ⟨c1, c2, c3, c4, c5, c6, c7, c8⟩ := cls v
  simp only [dangerV, decide_eq_true_eq] at h
  unfold textV
  rw [if_neg (by omega), if_neg (by omega)]
  split
  · simp
  · split
    · simp
    · split
      · have := hexP_len16 (v.toNat - 1114112) 2 1 (by omega) (by omega)
        simp only [List.length_append, List.length_cons, List.length_nil]
        omega
      · have := hexP_len16 v.toNat 4 5 (by omega) (by omega)
        simp only [List.length_append, List.length_cons, List.length_nil]
        omega
theorem plain_text (v : Int) (h : dangerV v = false) (h0 : classOf v ≠ 0) : textV v = encV v ∧ 1 ≤ (textV v).length := by
  obtain ⟨c1, c2, c3, c4, c5, c6, c7, c8⟩ := cls v
  simp only [dangerV, decide_eq_false_iff_not] at h
  have e : textV v = encV v := by unfold textV; rw [if_neg h0, if_pos (by omega)]
  refine ⟨e, ?_⟩
  rw [e, encV_len v (by omega) (by omega)]
  (repeat' split) <;> omega
def goodB (b : UInt8) : Bool := decide (32 ≤ b.toNat) && decide (b.toNat ≠ 127)
theorem good_of {n : Nat} (h : n < 256) (h1 : 32 ≤ n) (h2 : n ≠ 127) : goodB (UInt8.ofNat n) = true := by
  unfold goodB
  rw [UInt8.toNat_ofNat_of_lt' (by simpa using h)]
  simp; omega
theorem good_hex (n l : Nat) : (hexP n l).all goodB = true := by
  rw [List.all_eq_true]
  intro x hx
  have := List.all_eq_true.1 (hexP_all n l) x hx
  unfold digB at this
  unfold goodB
  simp only [Bool.and_eq_true, decide_eq_true_eq] at this ⊢
  omega
theorem good_enc (v : Int) (h : 32 ≤ v) (h1 : v ≤ 1114111) (h2 : v ≠ 127) : (encV v).all goodB = true := by
  unfold encV
  (repeat' split) <;> simp only [List.all_cons, List.all_nil, Bool.and_true, Bool.and_eq_true]
  · exact good_of (by omega) (by omega) (by omega)
  · exact ⟨good_of (by omega) (by omega) (by omega), good_of (by omega) (by omega) (by omega)⟩
  · exact ⟨good_of (by omega) (by omega) (by omega), good_of (by omega) (by omega) (by omega), good_of (by omega) (by omega) (by omega)⟩
  · exact ⟨good_of (by omega) (by omega) (by omega), good_of (by omega) (by omega) (by omega), good_of (by omega) (by omega) (by omega), good_of (by omega) (by omega) (by omega)⟩
theorem good_text (v : Int) : (textV v).all goodB = true := by
  obtain ⟨c1, c2, c3, c4, c5, c6, c7, c8⟩ := cls v
  unfold textV
  split
  · rfl
  split
  · have := c4 (by omega) (by omega)
    exact good_enc v (by omega) (by omega) (by omega)
  split
  · have := c1 (by omega)
    simp only [List.all_cons, List.all_nil, Bool.and_true, Bool.and_eq_true]
    exact ⟨rfl, good_of (by omega) (by omega) (by omega)⟩
  split
  · rfl
  split
  · rw [List.all_append, good_hex]; rfl
  · rw [List.all_append, List.all_append, good_hex]; rfl
/-- Texts tell values apart. -/
theorem text_inj {v w : Int} (hv : right v = true) (hw : right w = true) (hd : dangerV v = dangerV w) (h : textV v = textV w) : v = w := by
  obtain ⟨c1, c2, c3, c4, c5, c6, c7, c8⟩ := cls v
  obtain ⟨d1, d2, d3, d4, d5, d6, d7, d8⟩ := cls w
  have v1 := c8.2 hv
  have w1 := d8.2 hw
  cases hdv : dangerV v
  · have e1 := (plain_text v hdv (by omega)).1
    have e2 := (plain_text w (hd ▸ hdv) (by omega)).1
    rw [hdv] at hd
    have hd := hd.symm
    simp only [dangerV, decide_eq_false_iff_not] at hdv hd
    exact encV_inj (by omega) (by omega) (by omega) (by omega) (by rw [← e1, ← e2, h])
  · rw [hdv] at hd
    have hd := hd.symm
    simp only [dangerV, decide_eq_true_eq] at hdv hd
    unfold textV at h
    rw [if_neg (by omega), if_neg (by omega), if_neg (by omega : ¬ classOf w = 0), if_neg (by omega : ¬ classOf w ≤ 3)] at h
    have ap : ∀ {a b : UInt8} {x y : List UInt8}, a :: x = b :: y → a = b := fun h => (List.cons.inj h).1
    split at h
    · split at h
      · have := ofNat_inj (by omega) (by omega) (ap (List.cons.inj h).2)
        omega
      · split at h
        · have := ofNat_inj (b := 63) (by omega) (by omega) (ap (List.cons.inj h).2)
          omega
        · split at h
          · exact absurd (ap h) (by decide)
          · exact absurd (ap h) (by decide)
    · split at h
      · split at h
        · have := ofNat_inj (a := 63) (by omega) (by omega) (ap (List.cons.inj h).2)
          omega
        · split at h
          · omega
          · split at h
            · exact absurd (ap h) (by decide)
            · exact absurd (ap h) (by decide)
      · split at h
        · split at h
          · exact absurd (ap h) (by decide)
          · split at h
            · exact absurd (ap h) (by decide)
            · split at h
              · have := hexP_inj (List.append_cancel_left h)
                omega
              · exact absurd (ap h) (by decide)
        · split at h
          · exact absurd (ap h) (by decide)
          · split at h
            · exact absurd (ap h) (by decide)
            · split at h
              · exact absurd (ap h) (by decide)
              · have := hexP_inj (List.append_cancel_left (List.append_cancel_right h))
                omega
section
variable {k : Nat → List Value → Option Value} (hk : ∀ f, f ≠ 95 → Open k f)
include hk
theorem rright2_ok (v : Int) : PC (XK k) 27 [.c (.int .i64 v)] (.c (.bool (right v))) := rright_ok hk v
theorem showCells_ok (hrep : ∀ d : Nat, d ≤ 16 → PC (XK k) 95 [tx [48], .c (.int .i64 d)] (tx (List.replicate d 48))) (haw : k 19 [] = some (.bool true)) (p q : Int × Int) (own : Int) (s : VS) :
    VC (XK k) 4 [.agg (eS p), .agg (eS q), .c (.int .i64 own)] s fun r _ => r = .c (.bool true) := by
  have haw' : ∀ {vs : VS} {Q : AV → VS → Prop}, Q (.c (.bool true)) vs → VC (XK k) 19 [] vs Q := fun h => VC_known (ws := []) (v := .bool true) haw rfl rfl h
  refine f4_in (hk _ (by decide)) ?_
  have hlen := cellsS_len p own
  have hl80 : (cellsS p own).length ≤ 80 := by
    have h1 := textV_len p.1
    have h2 : colsV p.1 ≤ 80 := by
      unfold colsV widthV
      (repeat' split) <;> omega
    omega
  repeat' (first | ((first | apply ga_dec | apply ga_ndec | apply cd_dec | apply cd_ndec | apply gd_dec | apply gd_ndec | apply ga_split | apply cd_split | apply gd_split) <;> intro hc <;> (try (simp -implicitDefEqProofs (maxSteps := 2000000) (disch := first | omega | (simp only [vz_push, vz_set, drop_size]; done) | (simp only [vz_push, vz_set, drop_size]; omega)) only [push_cast, seval, f4N0, hc, eS, hlen])) <;> (try (exfalso; omega))) | refine VC_pure (cells_ok hk hrep p own) ?_ | refine VC_pure (rcells_ok hk q own) ?_ | refine VC_pure (looks_ok hk p) ?_ | refine VC_pure (rlooks_ok hk p) ?_ | refine VC_pure (rcells_ok hk p own) ?_ | refine VC_pure (all6_ok hk _ _ (by omega)) ?_ | refine VC_pure (rcols_ok hk _) ?_ | refine VC_pure (look_ok hk _ _ (by omega)) ?_ | refine VC_pure (rlook_ok hk _ _ (by omega)) ?_ | refine haw' ?_ | (simp -implicitDefEqProofs (maxSteps := 2000000) (disch := first | omega | (simp only [vz_push, vz_set, drop_size]; done) | (simp only [vz_push, vz_set, drop_size]; omega)) only [push_cast, seval, f4N0, eS, hlen]))
theorem showCols_ok (hrep : ∀ d : Nat, d ≤ 16 → PC (XK k) 95 [tx [48], .c (.int .i64 d)] (tx (List.replicate d 48))) (haw : k 19 [] = some (.bool true)) (v : Int) (s : VS) :
    VC (XK k) 6 [.c (.int .i64 v)] s fun r _ => r = .c (.bool true) := by
  have haw' : ∀ {vs : VS} {Q : AV → VS → Prop}, Q (.c (.bool true)) vs → VC (XK k) 19 [] vs Q := fun h => VC_known (ws := []) (v := .bool true) haw rfl rfl h
  refine f6_in (hk _ (by decide)) ?_
  obtain ⟨c1, c2, c3, c4, c5, c6, c7, c8⟩ := cls v
  cases hr : right v
  · have h0 : classOf v = 0 := by
      have : ¬ 1 ≤ classOf v := fun h => by rw [c8.1 h] at hr; cases hr
      omega
    have e1 : textV v = [] := by unfold textV; rw [if_pos h0]
    have e2 : colsV v = 0 := by unfold colsV dangerV widthV; simp [h0]
    repeat' (first | ((first | apply ga_dec | apply ga_ndec | apply cd_dec | apply cd_ndec | apply gd_dec | apply gd_ndec | apply ga_split | apply cd_split | apply gd_split) <;> intro hc <;> (try (simp -implicitDefEqProofs (maxSteps := 2000000) (disch := first | omega | (simp only [vz_push, vz_set, drop_size]; done) | (simp only [vz_push, vz_set, drop_size]; omega)) only [push_cast, seval, f6N0, f6N1, hc, hr, e1, e2])) <;> (try (exfalso; omega))) | refine VC_pure (cols_ok hk hrep v) ?_ | refine VC_pure (rright2_ok hk v) ?_ | refine VC_pure (text_ok hk hrep v) ?_ | refine haw' ?_ | (simp -implicitDefEqProofs (maxSteps := 2000000) (disch := first | omega | (simp only [vz_push, vz_set, drop_size]; done) | (simp only [vz_push, vz_set, drop_size]; omega)) only [push_cast, seval, f6N0, f6N1, hr, e1, e2]))
  · have h1 := c8.2 hr
    cases hd : dangerV v
    · have e1 := plain_text v hd (by omega)
      simp only [dangerV, decide_eq_false_iff_not] at hd
      have e2 : 1 ≤ colsV v ∧ colsV v ≤ 2 := by
        have := widthV_rng v (by omega) (by omega)
        unfold colsV dangerV
        rw [decide_eq_false hd]
        exact this
      have e3 : (textV v == []) = false := by
        rw [beq_eq_false_iff_ne]
        intro h; rw [h] at e1; simp at e1
      repeat' (first | ((first | apply ga_dec | apply ga_ndec | apply cd_dec | apply cd_ndec | apply gd_dec | apply gd_ndec | apply ga_split | apply cd_split | apply gd_split) <;> intro hc <;> (try (simp -implicitDefEqProofs (maxSteps := 2000000) (disch := first | omega | (simp only [vz_push, vz_set, drop_size]; done) | (simp only [vz_push, vz_set, drop_size]; omega)) only [push_cast, seval, f6N0, f6N1, hc, hr, e3])) <;> (try (exfalso; omega))) | refine VC_pure (cols_ok hk hrep v) ?_ | refine VC_pure (rright2_ok hk v) ?_ | refine VC_pure (text_ok hk hrep v) ?_ | refine VC_pure (rof_ok hk v) ?_ | refine haw' ?_ | (simp -implicitDefEqProofs (maxSteps := 2000000) (disch := first | omega | (simp only [vz_push, vz_set, drop_size]; done) | (simp only [vz_push, vz_set, drop_size]; omega)) only [push_cast, seval, f6N0, f6N1, hr, e3]))
    · have e1 := danger_text v hd
      have e2 : colsV v = ((textV v).length : Int) := by unfold colsV; rw [hd]; rfl
      have e3 : (textV v == []) = false := by
        rw [beq_eq_false_iff_ne]
        intro h; rw [h] at e1; simp at e1
      repeat' (first | ((first | apply ga_dec | apply ga_ndec | apply cd_dec | apply cd_ndec | apply gd_dec | apply gd_ndec | apply ga_split | apply cd_split | apply gd_split) <;> intro hc <;> (try (simp -implicitDefEqProofs (maxSteps := 2000000) (disch := first | omega | (simp only [vz_push, vz_set, drop_size]; done) | (simp only [vz_push, vz_set, drop_size]; omega)) only [push_cast, seval, f6N0, f6N1, hc, hr, e3, e2])) <;> (try (exfalso; omega))) | refine VC_pure (cols_ok hk hrep v) ?_ | refine VC_pure (rright2_ok hk v) ?_ | refine VC_pure (text_ok hk hrep v) ?_ | refine VC_pure (rof_ok hk v) ?_ | refine haw' ?_ | (simp -implicitDefEqProofs (maxSteps := 2000000) (disch := first | omega | (simp only [vz_push, vz_set, drop_size]; done) | (simp only [vz_push, vz_set, drop_size]; omega)) only [push_cast, seval, f6N0, f6N1, hr, e3, e2]))
      rw [decide_eq_true (by omega)]
theorem showApart_ok (hrep : ∀ d : Nat, d ≤ 16 → PC (XK k) 95 [tx [48], .c (.int .i64 d)] (tx (List.replicate d 48))) (haw : k 19 [] = some (.bool true)) (v w : Int) (s : VS) :
    VC (XK k) 5 [.c (.int .i64 v), .c (.int .i64 w)] s fun r _ => r = .c (.bool true) := by
  have haw' : ∀ {vs : VS} {Q : AV → VS → Prop}, Q (.c (.bool true)) vs → VC (XK k) 19 [] vs Q := fun h => VC_known (ws := []) (v := .bool true) haw rfl rfl h
  refine f5_in (hk _ (by decide)) ?_
  repeat' (first | ((first | apply ga_dec | apply ga_ndec | apply cd_dec | apply cd_ndec | apply gd_dec | apply gd_ndec | apply ga_split | apply cd_split | apply gd_split) <;> intro hc <;> (try (simp -implicitDefEqProofs (maxSteps := 2000000) (disch := first | omega | (simp only [vz_push, vz_set, drop_size]; done) | (simp only [vz_push, vz_set, drop_size]; omega)) only [push_cast, seval, f5N0, f5N1, f5N2, hc])) <;> (try (exfalso; omega))) | refine VC_pure (text_ok hk hrep _) ?_ | (simp -implicitDefEqProofs (maxSteps := 2000000) (disch := first | omega | (simp only [vz_push, vz_set, drop_size]; done) | (simp only [vz_push, vz_set, drop_size]; omega)) only [push_cast, seval, f5N0, f5N1, f5N2]))
  have hg := List.all_eq_true.1 (good_text v)
  have htl := textV_len v
  refine VW_iter (fun m ρ s' => ∃ j : Nat, m = (textV v).length - j ∧ j ≤ (textV v).length ∧ ρ.get 0 = .c (.int .i64 v) ∧ ρ.get 1 = .c (.int .i64 w) ∧ ρ.get 5 = tx (textV v) ∧ ρ.get 6 = tx (textV w) ∧ ρ.get 7 = .c (.int .i64 j)) ((textV v).length) ⟨0, rfl, Nat.zero_le _, by (((try simp -implicitDefEqProofs only [eA_tmp, eA_const, AEnv.get_set, ofA_get, List.getD_cons_zero, List.getD_cons_succ, ↓reduceIte, reduceCtorEq, Nat.reduceEqDiff]); try (first | (with_reducible assumption) | (with_reducible rfl) | (congr 2 <;> omega) | rfl))), by (((try simp -implicitDefEqProofs only [eA_tmp, eA_const, AEnv.get_set, ofA_get, List.getD_cons_zero, List.getD_cons_succ, ↓reduceIte, reduceCtorEq, Nat.reduceEqDiff]); try (first | (with_reducible assumption) | (with_reducible rfl) | (congr 2 <;> omega) | rfl))), by (((try simp -implicitDefEqProofs only [eA_tmp, eA_const, AEnv.get_set, ofA_get, List.getD_cons_zero, List.getD_cons_succ, ↓reduceIte, reduceCtorEq, Nat.reduceEqDiff]); try (first | (with_reducible assumption) | (with_reducible rfl) | (congr 2 <;> omega) | rfl))), by (((try simp -implicitDefEqProofs only [eA_tmp, eA_const, AEnv.get_set, ofA_get, List.getD_cons_zero, List.getD_cons_succ, ↓reduceIte, reduceCtorEq, Nat.reduceEqDiff]); try (first | (with_reducible assumption) | (with_reducible rfl) | (congr 2 <;> omega) | rfl))), by (((try simp -implicitDefEqProofs only [eA_tmp, eA_const, AEnv.get_set, ofA_get, List.getD_cons_zero, List.getD_cons_succ, ↓reduceIte, reduceCtorEq, Nat.reduceEqDiff]); try (first | (with_reducible assumption) | (with_reducible rfl) | (congr 2 <;> omega) | rfl)))⟩ ?_
  rintro m ρ s' ⟨j, rfl, hj, g0, g1, g5, g6, g7⟩
  simp -implicitDefEqProofs (maxSteps := 2000000) (disch := first | omega | (simp only [vz_push, vz_set, drop_size]; done) | (simp only [vz_push, vz_set, drop_size]; omega)) only [push_cast, seval, f5N0, f5N1, f5N2, g5, g7]
  refine cd_dec (fun hc => ?_) (fun hc => ?_)
  · obtain ⟨c, hx⟩ : ∃ c, (textV v)[j]? = some c := ⟨_, List.getElem?_eq_getElem (by omega)⟩
    have hgc := hg c (List.mem_of_getElem? hx)
    unfold goodB at hgc
    simp only [Bool.and_eq_true, decide_eq_true_eq] at hgc
    repeat' (first | ((first | apply ga_dec | apply ga_ndec | apply cd_dec | apply cd_ndec | apply gd_dec | apply gd_ndec | apply ga_split | apply cd_split | apply gd_split) <;> intro hc <;> (try (simp -implicitDefEqProofs (maxSteps := 2000000) (disch := first | omega | (simp only [vz_push, vz_set, drop_size]; done) | (simp only [vz_push, vz_set, drop_size]; omega)) only [push_cast, seval, f5N0, f5N1, f5N2, hc, g0, g1, g5, g6, g7, hx])) <;> (try (exfalso; omega))) | (simp -implicitDefEqProofs (maxSteps := 2000000) (disch := first | omega | (simp only [vz_push, vz_set, drop_size]; done) | (simp only [vz_push, vz_set, drop_size]; omega)) only [push_cast, seval, f5N0, f5N1, f5N2, g0, g1, g5, g6, g7, hx]))
    refine ⟨_ - (j + 1), by omega, j + 1, rfl, by omega, ?_⟩ <;> (try simp only [Int.natCast_add, Int.natCast_one, cast_lit, and_true, true_and, eq_self])
  · by_cases hvw : v = w
    · repeat' (first | ((first | apply ga_dec | apply ga_ndec | apply cd_dec | apply cd_ndec | apply gd_dec | apply gd_ndec | apply ga_split | apply cd_split | apply gd_split) <;> intro hc <;> (try (simp -implicitDefEqProofs (maxSteps := 2000000) (disch := first | omega | (simp only [vz_push, vz_set, drop_size]; done) | (simp only [vz_push, vz_set, drop_size]; omega)) only [push_cast, seval, f5N0, f5N1, f5N2, hc, g0, g1, g5, g6, hvw])) <;> (try (exfalso; omega))) | refine haw' ?_ | (simp -implicitDefEqProofs (maxSteps := 2000000) (disch := first | omega | (simp only [vz_push, vz_set, drop_size]; done) | (simp only [vz_push, vz_set, drop_size]; omega)) only [push_cast, seval, f5N0, f5N1, f5N2, g0, g1, g5, g6, hvw]))
    · cases hr : right v
      · repeat' (first | ((first | apply ga_dec | apply ga_ndec | apply cd_dec | apply cd_ndec | apply gd_dec | apply gd_ndec | apply ga_split | apply cd_split | apply gd_split) <;> intro hc <;> (try (simp -implicitDefEqProofs (maxSteps := 2000000) (disch := first | omega | (simp only [vz_push, vz_set, drop_size]; done) | (simp only [vz_push, vz_set, drop_size]; omega)) only [push_cast, seval, f5N0, f5N1, f5N2, hc, g0, g1, g5, g6, hvw, hr])) <;> (try (exfalso; omega))) | refine haw' ?_ | refine VC_pure (rright2_ok hk _) ?_ | (simp -implicitDefEqProofs (maxSteps := 2000000) (disch := first | omega | (simp only [vz_push, vz_set, drop_size]; done) | (simp only [vz_push, vz_set, drop_size]; omega)) only [push_cast, seval, f5N0, f5N1, f5N2, g0, g1, g5, g6, hvw, hr]))
      · cases hr2 : right w
        · repeat' (first | ((first | apply ga_dec | apply ga_ndec | apply cd_dec | apply cd_ndec | apply gd_dec | apply gd_ndec | apply ga_split | apply cd_split | apply gd_split) <;> intro hc <;> (try (simp -implicitDefEqProofs (maxSteps := 2000000) (disch := first | omega | (simp only [vz_push, vz_set, drop_size]; done) | (simp only [vz_push, vz_set, drop_size]; omega)) only [push_cast, seval, f5N0, f5N1, f5N2, hc, g0, g1, g5, g6, hvw, hr, hr2])) <;> (try (exfalso; omega))) | refine haw' ?_ | refine VC_pure (rright2_ok hk _) ?_ | (simp -implicitDefEqProofs (maxSteps := 2000000) (disch := first | omega | (simp only [vz_push, vz_set, drop_size]; done) | (simp only [vz_push, vz_set, drop_size]; omega)) only [push_cast, seval, f5N0, f5N1, f5N2, g0, g1, g5, g6, hvw, hr, hr2]))
        · cases ht : (textV v == textV w)
          · repeat' (first | ((first | apply ga_dec | apply ga_ndec | apply cd_dec | apply cd_ndec | apply gd_dec | apply gd_ndec | apply ga_split | apply cd_split | apply gd_split) <;> intro hc <;> (try (simp -implicitDefEqProofs (maxSteps := 2000000) (disch := first | omega | (simp only [vz_push, vz_set, drop_size]; done) | (simp only [vz_push, vz_set, drop_size]; omega)) only [push_cast, seval, f5N0, f5N1, f5N2, hc, g0, g1, g5, g6, hvw, hr, hr2, ht])) <;> (try (exfalso; omega))) | refine haw' ?_ | refine VC_pure (rright2_ok hk _) ?_ | (simp -implicitDefEqProofs (maxSteps := 2000000) (disch := first | omega | (simp only [vz_push, vz_set, drop_size]; done) | (simp only [vz_push, vz_set, drop_size]; omega)) only [push_cast, seval, f5N0, f5N1, f5N2, g0, g1, g5, g6, hvw, hr, hr2, ht]))
          · have hdd : dangerV v ≠ dangerV w := fun h => hvw (text_inj hr hr2 h (by simpa using ht))
            have hll : ¬ looksS (v, 0) % 2 = looksS (w, 0) % 2 := by
              unfold looksS
              cases h1 : dangerV v <;> cases h2 : dangerV w <;> simp [h1, h2] at hdd ⊢ <;> (repeat' split) <;> omega
            have hl0 : ∀ x, 0 ≤ looksS (x, 0) := fun x => by unfold looksS; (repeat' split) <;> omega
            have h01 := hl0 v
            have h02 := hl0 w
            repeat' (first | ((first | apply ga_dec | apply ga_ndec | apply cd_dec | apply cd_ndec | apply gd_dec | apply gd_ndec | apply ga_split | apply cd_split | apply gd_split) <;> intro hc <;> (try (simp -implicitDefEqProofs (maxSteps := 2000000) (disch := first | omega | (simp only [vz_push, vz_set, drop_size]; done) | (simp only [vz_push, vz_set, drop_size]; omega)) only [push_cast, seval, f5N0, f5N1, f5N2, hc, g0, g1, g5, g6, hvw, hr, hr2, ht, hll])) <;> (try (exfalso; omega))) | refine haw' ?_ | refine VC_pure (rright2_ok hk _) ?_ | refine VC_pure (looks_ok hk (_, 0)) ?_ | (simp -implicitDefEqProofs (maxSteps := 2000000) (disch := first | omega | (simp only [vz_push, vz_set, drop_size]; done) | (simp only [vz_push, vz_set, drop_size]; omega)) only [push_cast, seval, f5N0, f5N1, f5N2, g0, g1, g5, g6, hvw, hr, hr2, ht, hll]))
end
end Go.Proofs.YtpckldhojfjdmaaDoor.Ab
