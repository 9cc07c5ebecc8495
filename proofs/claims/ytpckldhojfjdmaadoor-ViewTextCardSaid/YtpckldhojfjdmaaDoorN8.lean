/- The law ViewText. -/
import Derived.Test.YtpckldhojfjdmaaDoorN7
namespace Go.Proofs.YtpckldhojfjdmaaDoor.Ab
open Go.Proofs
set_option maxRecDepth 100000
set_option maxHeartbeats 4000000
set_option linter.unusedSimpArgs false
set_option linter.unusedVariables false
set_option linter.unnecessarySimpa false
set_option linter.unusedSectionVars false
/-- What cells say: values above 0, blanks for 0. -/
def saysC (l : List Cl) : List Int := l.flatMap fun c => if 0 < c.1 then [c.1] else if c.1 = 0 then [32] else []
theorem saysC_app (l m : List Cl) : saysC (l ++ m) = saysC l ++ saysC m := by simp [saysC]
theorem saysC_le (l : List Cl) : (saysC l).length ≤ l.length := by
  unfold saysC
  induction l with
  | nil => simp
  | cons c l ih =>
    rw [List.flatMap_cons, List.length_append, List.length_cons]
    have : (if 0 < c.1 then [c.1] else if c.1 = 0 then [32] else [] : List Int).length ≤ 1 := by (repeat' split) <;> simp
    omega
theorem encR_byte {c : UInt8} (h : 32 ≤ c.toNat ∧ c.toNat ≤ 126) : encR (c.toNat : Int) = [c] := by
  have hr : right (c.toNat : Int) = true := by unfold right; simp; omega
  unfold encR encV
  rw [if_pos hr, if_pos (by omega)]
  simp
theorem says_tell (a own v : Int) : ∀ (l : List UInt8) (i : Nat), (∀ c ∈ l, 32 ≤ c.toNat ∧ c.toNat ≤ 126) → (saysC (tellC a own v i l)).flatMap encR = l
  | [], i, _ => rfl
  | c :: l, i, h => by
    have h1 := h c (by simp)
    have ih := says_tell a own v l (i + 1) fun d hd => h d (by simp [hd])
    have e : saysC (tellC a own v i (c :: l)) = [(c.toNat : Int)] ++ saysC (tellC a own v (i + 1) l) := by
      rw [tellC]
      unfold saysC
      rw [List.flatMap_cons]
      congr 1
      rw [if_pos (by show (0 : Int) < (c.toNat : Int); omega)]
    rw [e, List.flatMap_append, ih]
    simp [encR_byte h1]
theorem danger_ascii (v : Int) (h : dangerV v = true) : ∀ c ∈ textV v, 32 ≤ c.toNat ∧ c.toNat ≤ 126 := by
  obtain ⟨c1, c2, c3, c4, c5, c6, c7, c8⟩ := cls v
  have hg := List.all_eq_true.1 (good_text v)
  simp only [dangerV, decide_eq_true_eq] at h
  intro c hc
  have hgc := hg c hc
  unfold goodB at hgc
  simp only [Bool.and_eq_true, decide_eq_true_eq] at hgc
  refine ⟨hgc.1, ?_⟩
  have hx : ∀ n l, c ∈ hexP n l → c.toNat ≤ 126 := fun n l hm => by
    have := List.all_eq_true.1 (hexP_all n l) c hm
    unfold digB at this
    simp only [Bool.and_eq_true, decide_eq_true_eq] at this
    omega
  unfold textV at hc
  rw [if_neg (by omega), if_neg (by omega)] at hc
  split at hc
  · have := c1 (by omega)
    simp only [List.mem_cons, List.not_mem_nil, or_false] at hc
    rcases hc with rfl | rfl
    · decide
    · rw [UInt8.toNat_ofNat_of_lt' (by simp [UInt8.size]; omega)]; omega
  · split at hc
    · simp only [List.mem_cons, List.not_mem_nil, or_false] at hc
      rcases hc with rfl | rfl <;> decide
    · split at hc
      · simp only [List.mem_append, List.mem_cons, List.not_mem_nil, or_false] at hc
        rcases hc with (rfl | rfl) | hc
        · decide
        · decide
        · exact hx _ _ hc
      · simp only [List.mem_append, List.mem_cons, List.not_mem_nil, or_false] at hc
        rcases hc with ((rfl | rfl | rfl) | hc) | rfl
        · decide
        · decide
        · decide
        · exact hx _ _ hc
        · decide
theorem says_cells (p : Int × Int) (own : Int) : (saysC (cellsS p own)).flatMap encR = textV p.1 := by
  obtain ⟨c1, c2, c3, c4, c5, c6, c7, c8⟩ := cls p.1
  unfold cellsS
  cases hd : dangerV p.1
  · by_cases h0 : classOf p.1 = 0
    · have : textV p.1 = [] := by unfold textV; rw [if_pos h0]
      rw [this]; simp [h0, saysC]
    · have ht := (plain_text p.1 hd h0).1
      have hd2 := hd
      simp only [dangerV, decide_eq_false_iff_not] at hd2
      have hp := c4 (by omega) (by omega)
      have he : encR p.1 = encV p.1 := by unfold encR; rw [if_pos (c8.1 (by omega))]
      rw [ht]
      by_cases h2 : classOf p.1 = 2
      · simp [h0, h2, saysC, show 0 < p.1 by omega, he]
      · simp [h0, h2, saysC, show 0 < p.1 by omega, he]
  · simp only [if_true]
    exact says_tell _ _ _ _ _ (danger_ascii p.1 hd)
def textsL (l : List (Int × Int)) : List UInt8 := l.flatMap fun p => textV p.1
theorem says_prompt (l : List (Int × Int)) : (saysC (promptC l)).flatMap encR = textsL l := by
  unfold promptC textsL
  induction l with
  | nil => rfl
  | cons p l ih => rw [List.flatMap_cons, saysC_app, List.flatMap_append, says_cells, ih, List.flatMap_cons]
theorem says_line : ∀ (l : List (Int × Int)) (i : Nat), (saysC (lineC i l)).flatMap encR = textsL l
  | [], i => rfl
  | p :: l, i => by rw [lineC, saysC_app, List.flatMap_append, says_cells, says_line l (i + 1)]; rfl
theorem says_view (a b : List (Int × Int)) : (saysC (viewC a b)).flatMap encR = textsL (a ++ b) := by
  unfold viewC
  rw [saysC_app, List.flatMap_append, says_prompt, says_line]
  simp [textsL]
theorem textsL_snoc (p : Int × Int) (l : List (Int × Int)) : textsL (l ++ [p]) = textsL l ++ textV p.1 := by simp [textsL]
theorem textsL_le (l : List (Int × Int)) : (textsL l).length ≤ 80 * l.length := by
  unfold textsL
  induction l with
  | nil => simp
  | cons p l ih =>
    have := textV_len p.1
    rw [List.flatMap_cons, List.length_append, List.length_cons]
    omega
section
variable {k : Nat → List Value → Option Value} (hk : ∀ f, f ≠ 95 → Open k f)
include hk
theorem vtext_ok (l : List Cl) (hl : l.length < 100000) : PC (XK k) 54 [LC l] (tx ((saysC l).flatMap encR)) := by
  refine PC_of fun s => ?_
  refine f54_in (hk _ (by decide)) ?_
  have hroom : roomOk l.length 8 = true := (room_ok (by constructor <;> (try dsimp only) <;> omega))
  (try (simp -implicitDefEqProofs (maxSteps := 2000000) (disch := first | omega | (simp only [vz_push, vz_set, drop_size]; done) | (simp only [vz_push, vz_set, drop_size]; omega)) only [push_cast, seval, f54N0, f54N1, f54N2, hroom])) <;> (repeat' ((first | apply ga_dec | apply ga_ndec | apply cd_dec | apply cd_ndec | apply gd_dec | apply gd_ndec | apply ga_split | apply cd_split | apply gd_split) <;> intro hc <;> try (simp -implicitDefEqProofs (maxSteps := 2000000) (disch := first | omega | (simp only [vz_push, vz_set, drop_size]; done) | (simp only [vz_push, vz_set, drop_size]; omega)) only [push_cast, seval, f54N0, f54N1, f54N2, hc, hroom])))
  refine VW_iter (fun m ρ s' => ∃ j : Nat, m = l.length - j ∧ j ≤ l.length ∧ ρ.get 0 = LC l ∧ ρ.get 10 = .c (.int .i64 l.length) ∧ ρ.get 11 = .c (.int .i64 j) ∧ (Gw s s' 3 1 (ρ.get 3) (saysC (l.take j)).length ((saysC (l.take j)).map (eI .i64)).flatten) ∧ (KeepA s s')) (l.length) ⟨0, rfl, Nat.zero_le _, by (((try simp -implicitDefEqProofs only [eA_tmp, eA_const, AEnv.get_set, ofA_get, List.getD_cons_zero, List.getD_cons_succ, ↓reduceIte, reduceCtorEq, Nat.reduceEqDiff]); try (first | (with_reducible assumption) | (with_reducible rfl) | (congr 2 <;> omega) | rfl))), by (((try simp -implicitDefEqProofs only [eA_tmp, eA_const, AEnv.get_set, ofA_get, List.getD_cons_zero, List.getD_cons_succ, ↓reduceIte, reduceCtorEq, Nat.reduceEqDiff]); try (first | (with_reducible assumption) | (with_reducible rfl) | (congr 2 <;> omega) | rfl))), by (((try simp -implicitDefEqProofs only [eA_tmp, eA_const, AEnv.get_set, ofA_get, List.getD_cons_zero, List.getD_cons_succ, ↓reduceIte, reduceCtorEq, Nat.reduceEqDiff]); try (first | (with_reducible assumption) | (with_reducible rfl) | (congr 2 <;> omega) | rfl))), (by (((try simp -implicitDefEqProofs only [eA_tmp, eA_const, AEnv.get_set, ofA_get, List.getD_cons_zero, List.getD_cons_succ, ↓reduceIte, reduceCtorEq, Nat.reduceEqDiff]); try (first | (with_reducible assumption) | (with_reducible rfl) | (congr 2 <;> omega) | rfl))); refine (Gw.room s.size 0 l.length [] _ _ (gp_eq rfl) (Nat.le_refl _) (by simp) ?_ (Nat.zero_le _)).cast rfl rfl; simp [reps_len]), by (repeat first | assumption | exact KeepA.refl _ | apply KeepA.push | refine KeepA.set ?_ (by first | omega | (simp only [vz_push, vz_set, drop_size]; omega) | (have h9 := KeepA.size_le (by assumption); (try simp only [vz_push, vz_set, drop_size] at *); omega)) _ | refine KeepA.drop ?_ (by first | omega | (simp only [vz_push, vz_set, drop_size]; omega) | (have h9 := KeepA.size_le (by assumption); (try simp only [vz_push, vz_set, drop_size] at *); omega)) | refine KeepA.trans ?_ (by assumption))⟩ ?_
  rintro m ρ s' ⟨j, rfl, hj, g0, g10, g11, j1, j2⟩
  obtain ⟨v, g3⟩ : ∃ v, ρ.get 3 = v := ⟨_, rfl⟩
  rw [g3] at j1
  simp -implicitDefEqProofs (maxSteps := 2000000) (disch := first | omega | (simp only [vz_push, vz_set, drop_size]; done) | (simp only [vz_push, vz_set, drop_size]; omega)) only [push_cast, seval, f54N0, f54N1, f54N2, g10, g11]
  refine cd_dec (fun hc => ?_) (fun hc => ?_)
  · obtain ⟨x, hx⟩ : ∃ x, l[j]? = some x := ⟨_, List.getElem?_eq_getElem (by omega)⟩
    have hstep : saysC (l.take (j + 1)) = saysC (l.take j) ++ (if 0 < x.1 then [x.1] else if x.1 = 0 then [32] else []) := by
      rw [take_snoc hx, saysC_app]; simp [saysC]
    have hle := saysC_le (l.take j)
    rw [List.length_take] at hle
    generalize saysC (l.take j) = sc at *
    by_cases h1 : 0 < x.1
    · rw [if_pos h1] at hstep
      repeat' (first | ((first | apply ga_dec | apply ga_ndec | apply cd_dec | apply cd_ndec | apply gd_dec | apply gd_ndec | apply ga_split | apply cd_split | apply gd_split) <;> intro hc <;> (try (simp -implicitDefEqProofs (maxSteps := 2000000) (disch := first | omega | (simp only [vz_push, vz_set, drop_size]; done) | (simp only [vz_push, vz_set, drop_size]; omega)) only [push_cast, seval, f54N0, f54N1, f54N2, hc, g0, g3, g10, g11, hx, eC, h1])) <;> (try (exfalso; omega))) | (simp -implicitDefEqProofs (maxSteps := 2000000) (disch := first | omega | (simp only [vz_push, vz_set, drop_size]; done) | (simp only [vz_push, vz_set, drop_size]; omega)) only [push_cast, seval, f54N0, f54N1, f54N2, g0, g3, g10, g11, hx, eC, h1]))
      refine Gw.step (m := 1) (j1.push _) (j2.push _) rfl rfl rfl (room_ok (by constructor <;> (try dsimp only) <;> omega)) ?_
      intro v' s2 hg hbt hn hk'
      (try (simp -implicitDefEqProofs (maxSteps := 2000000) (disch := first | omega | (simp only [vz_push, vz_set, drop_size]; done) | (simp only [vz_push, vz_set, drop_size]; omega)) only [push_cast, seval, f54N0, f54N1, f54N2, g0, g10, g11])) <;> (repeat' ((first | apply ga_dec | apply ga_ndec | apply cd_dec | apply cd_ndec | apply gd_dec | apply gd_ndec | apply ga_split | apply cd_split | apply gd_split) <;> intro hc <;> try (simp -implicitDefEqProofs (maxSteps := 2000000) (disch := first | omega | (simp only [vz_push, vz_set, drop_size]; done) | (simp only [vz_push, vz_set, drop_size]; omega)) only [push_cast, seval, f54N0, f54N1, f54N2, hc, g0, g10, g11])))
      refine ⟨_ - (j + 1), by omega, j + 1, rfl, by omega, ?_⟩ <;> (try simp only [Int.natCast_add, Int.natCast_one, cast_lit, and_true, true_and, eq_self])
      rw [hstep]
      exact ⟨hg.cast (by simp) (by simp [eI]), hk'⟩
    · by_cases h2 : x.1 = 0
      · rw [if_neg h1, if_pos h2] at hstep
        repeat' (first | ((first | apply ga_dec | apply ga_ndec | apply cd_dec | apply cd_ndec | apply gd_dec | apply gd_ndec | apply ga_split | apply cd_split | apply gd_split) <;> intro hc <;> (try (simp -implicitDefEqProofs (maxSteps := 2000000) (disch := first | omega | (simp only [vz_push, vz_set, drop_size]; done) | (simp only [vz_push, vz_set, drop_size]; omega)) only [push_cast, seval, f54N0, f54N1, f54N2, hc, g0, g3, g10, g11, hx, eC, h2])) <;> (try (exfalso; omega))) | (simp -implicitDefEqProofs (maxSteps := 2000000) (disch := first | omega | (simp only [vz_push, vz_set, drop_size]; done) | (simp only [vz_push, vz_set, drop_size]; omega)) only [push_cast, seval, f54N0, f54N1, f54N2, g0, g3, g10, g11, hx, eC, h2]))
        refine Gw.step (m := 1) (j1.push _) (j2.push _) rfl rfl rfl (room_ok (by constructor <;> (try dsimp only) <;> omega)) ?_
        intro v' s2 hg hbt hn hk'
        (try (simp -implicitDefEqProofs (maxSteps := 2000000) (disch := first | omega | (simp only [vz_push, vz_set, drop_size]; done) | (simp only [vz_push, vz_set, drop_size]; omega)) only [push_cast, seval, f54N0, f54N1, f54N2, g0, g10, g11])) <;> (repeat' ((first | apply ga_dec | apply ga_ndec | apply cd_dec | apply cd_ndec | apply gd_dec | apply gd_ndec | apply ga_split | apply cd_split | apply gd_split) <;> intro hc <;> try (simp -implicitDefEqProofs (maxSteps := 2000000) (disch := first | omega | (simp only [vz_push, vz_set, drop_size]; done) | (simp only [vz_push, vz_set, drop_size]; omega)) only [push_cast, seval, f54N0, f54N1, f54N2, hc, g0, g10, g11])))
        refine ⟨_ - (j + 1), by omega, j + 1, rfl, by omega, ?_⟩ <;> (try simp only [Int.natCast_add, Int.natCast_one, cast_lit, and_true, true_and, eq_self])
        rw [hstep]
        exact ⟨hg.cast (by simp) (by simp [eI]), hk'⟩
      · rw [if_neg h1, if_neg h2, List.append_nil] at hstep
        repeat' (first | ((first | apply ga_dec | apply ga_ndec | apply cd_dec | apply cd_ndec | apply gd_dec | apply gd_ndec | apply ga_split | apply cd_split | apply gd_split) <;> intro hc <;> (try (simp -implicitDefEqProofs (maxSteps := 2000000) (disch := first | omega | (simp only [vz_push, vz_set, drop_size]; done) | (simp only [vz_push, vz_set, drop_size]; omega)) only [push_cast, seval, f54N0, f54N1, f54N2, hc, g0, g3, g10, g11, hx, eC, h1, h2])) <;> (try (exfalso; omega))) | (simp -implicitDefEqProofs (maxSteps := 2000000) (disch := first | omega | (simp only [vz_push, vz_set, drop_size]; done) | (simp only [vz_push, vz_set, drop_size]; omega)) only [push_cast, seval, f54N0, f54N1, f54N2, g0, g3, g10, g11, hx, eC, h1, h2]))
        refine ⟨_ - (j + 1), by omega, j + 1, rfl, by omega, ?_⟩ <;> (try simp only [Int.natCast_add, Int.natCast_one, cast_lit, and_true, true_and, eq_self])
        rw [hstep]
        exact ⟨j1, j2⟩
  · obtain rfl : j = l.length := by omega
    rw [List.take_length] at j1
    have hle := saysC_le l
    simp -implicitDefEqProofs (maxSteps := 2000000) (disch := first | omega | (simp only [vz_push, vz_set, drop_size]; done) | (simp only [vz_push, vz_set, drop_size]; omega)) only [push_cast, seval, f54N0, f54N1, f54N2, g3]
    refine VC_lent (encode_ok hk (saysC l) (by omega)) (Ses.cons (j1.se (P := All) (fun _ _ => trivial) rfl (len_eI .i64 _) (by rw [List.length_map]) (FirmR.flat (all_map (firm_eI .i64)))) Ses.nil) (Rigid.c _) ?_
    simp -implicitDefEqProofs (maxSteps := 2000000) (disch := first | omega | (simp only [vz_push, vz_set, drop_size]; done) | (simp only [vz_push, vz_set, drop_size]; omega)) only [push_cast, seval, f54N0, f54N1, f54N2]
    exact out_tx (by (repeat first | assumption | exact KeepA.refl _ | apply KeepA.push | refine KeepA.set ?_ (by first | omega | (simp only [vz_push, vz_set, drop_size]; omega) | (have h9 := KeepA.size_le (by assumption); (try simp only [vz_push, vz_set, drop_size] at *); omega)) _ | refine KeepA.drop ?_ (by first | omega | (simp only [vz_push, vz_set, drop_size]; omega) | (have h9 := KeepA.size_le (by assumption); (try simp only [vz_push, vz_set, drop_size] at *); omega)) | refine KeepA.trans ?_ (by assumption))) rfl
theorem viewText_ok (hrep : ∀ d : Nat, d ≤ 16 → PC (XK k) 95 [tx [48], .c (.int .i64 d)] (tx (List.replicate d 48))) (haw : k 44 [] = some (.bool true)) (a b : List (Int × Int)) (s : VS) :
    VC (XK k) 13 [LS a, LS b] s fun r _ => r = .c (.bool true) := by
  have haw' : ∀ {vs : VS} {Q : AV → VS → Prop}, Q (.c (.bool true)) vs → VC (XK k) 44 [] vs Q := fun h => VC_known (ws := []) (v := .bool true) haw rfl rfl h
  refine f13_in (hk _ (by decide)) ?_
  by_cases hab : a.length ≤ 30 ∧ b.length ≤ 60
  · cases q1 : a.all rightS
    · repeat' (first | ((first | apply ga_dec | apply ga_ndec | apply cd_dec | apply cd_ndec | apply gd_dec | apply gd_ndec | apply ga_split | apply cd_split | apply gd_split) <;> intro hc <;> (try (simp -implicitDefEqProofs (maxSteps := 2000000) (disch := first | omega | (simp only [vz_push, vz_set, drop_size]; done) | (simp only [vz_push, vz_set, drop_size]; omega)) only [push_cast, seval, f13N0, f13N1, f13N2, hc, q1])) <;> (try (exfalso; omega))) | refine haw' ?_ | refine VC_pure (all_ok hk a (by omega)) ?_ | refine VC_pure (all_ok hk b (by omega)) ?_ | (simp -implicitDefEqProofs (maxSteps := 2000000) (disch := first | omega | (simp only [vz_push, vz_set, drop_size]; done) | (simp only [vz_push, vz_set, drop_size]; omega)) only [push_cast, seval, f13N0, f13N1, f13N2, q1]))
    · cases q2 : b.all rightS
      · repeat' (first | ((first | apply ga_dec | apply ga_ndec | apply cd_dec | apply cd_ndec | apply gd_dec | apply gd_ndec | apply ga_split | apply cd_split | apply gd_split) <;> intro hc <;> (try (simp -implicitDefEqProofs (maxSteps := 2000000) (disch := first | omega | (simp only [vz_push, vz_set, drop_size]; done) | (simp only [vz_push, vz_set, drop_size]; omega)) only [push_cast, seval, f13N0, f13N1, f13N2, hc, q1, q2])) <;> (try (exfalso; omega))) | refine haw' ?_ | refine VC_pure (all_ok hk a (by omega)) ?_ | refine VC_pure (all_ok hk b (by omega)) ?_ | (simp -implicitDefEqProofs (maxSteps := 2000000) (disch := first | omega | (simp only [vz_push, vz_set, drop_size]; done) | (simp only [vz_push, vz_set, drop_size]; omega)) only [push_cast, seval, f13N0, f13N1, f13N2, q1, q2]))
      · have h1 := vof_ok hk hrep a b (by omega) (by omega)
        rw [if_pos ⟨q1, q2⟩, if_pos ⟨q1, q2⟩] at h1
        have hpl := promptC_le a
        have hll := lineC_le b 0
        have hlen : (viewC a b).length < 100000 := by unfold viewC; rw [List.length_append]; omega
        have hsv := says_view a b
        have hal : (a ++ b).length = a.length + b.length := List.length_append
        generalize viewC a b = cs at *
        repeat' (first | ((first | apply ga_dec | apply ga_ndec | apply cd_dec | apply cd_ndec | apply gd_dec | apply gd_ndec | apply ga_split | apply cd_split | apply gd_split) <;> intro hc <;> (try (simp -implicitDefEqProofs (maxSteps := 2000000) (disch := first | omega | (simp only [vz_push, vz_set, drop_size]; done) | (simp only [vz_push, vz_set, drop_size]; omega)) only [push_cast, seval, f13N0, f13N1, f13N2, hc, q1, q2])) <;> (try (exfalso; omega))) | refine VC_pure (h1) ?_ | refine haw' ?_ | refine VC_pure (all_ok hk a (by omega)) ?_ | refine VC_pure (all_ok hk b (by omega)) ?_ | refine VC_pure (join_ok hk a b (by omega) (by omega)) ?_ | (simp -implicitDefEqProofs (maxSteps := 2000000) (disch := first | omega | (simp only [vz_push, vz_set, drop_size]; done) | (simp only [vz_push, vz_set, drop_size]; omega)) only [push_cast, seval, f13N0, f13N1, f13N2, q1, q2]))
        refine VW_iter (fun m ρ s' => ∃ j : Nat, m = (a ++ b).length - j ∧ j ≤ (a ++ b).length ∧ ρ.get 5 = LC cs ∧ ρ.get 6 = .c (.int .i64 0) ∧ ρ.get 7 = tx (textsL ((a ++ b).take j)) ∧ ρ.get 8 = LS (a ++ b) ∧ ρ.get 9 = .c (.int .i64 j)) ((a ++ b).length) ⟨0, rfl, Nat.zero_le _, by (((try simp -implicitDefEqProofs only [eA_tmp, eA_const, AEnv.get_set, ofA_get, List.getD_cons_zero, List.getD_cons_succ, ↓reduceIte, reduceCtorEq, Nat.reduceEqDiff]); try (first | (with_reducible assumption) | (with_reducible rfl) | (congr 2 <;> omega) | rfl))), by (((try simp -implicitDefEqProofs only [eA_tmp, eA_const, AEnv.get_set, ofA_get, List.getD_cons_zero, List.getD_cons_succ, ↓reduceIte, reduceCtorEq, Nat.reduceEqDiff]); try (first | (with_reducible assumption) | (with_reducible rfl) | (congr 2 <;> omega) | rfl))), by (((try simp -implicitDefEqProofs only [eA_tmp, eA_const, AEnv.get_set, ofA_get, List.getD_cons_zero, List.getD_cons_succ, ↓reduceIte, reduceCtorEq, Nat.reduceEqDiff]); try (first | (with_reducible assumption) | (with_reducible rfl) | (congr 2 <;> omega) | rfl))), by (((try simp -implicitDefEqProofs only [eA_tmp, eA_const, AEnv.get_set, ofA_get, List.getD_cons_zero, List.getD_cons_succ, ↓reduceIte, reduceCtorEq, Nat.reduceEqDiff]); try (first | (with_reducible assumption) | (with_reducible rfl) | (congr 2 <;> omega) | rfl))), by (((try simp -implicitDefEqProofs only [eA_tmp, eA_const, AEnv.get_set, ofA_get, List.getD_cons_zero, List.getD_cons_succ, ↓reduceIte, reduceCtorEq, Nat.reduceEqDiff]); try (first | (with_reducible assumption) | (with_reducible rfl) | (congr 2 <;> omega) | rfl)))⟩ ?_
        rintro m ρ s' ⟨j, rfl, hj, g5, g6, g7, g8, g9⟩
        simp -implicitDefEqProofs (maxSteps := 2000000) (disch := first | omega | (simp only [vz_push, vz_set, drop_size]; done) | (simp only [vz_push, vz_set, drop_size]; omega)) only [push_cast, seval, f13N0, f13N1, f13N2, g8, g9]
        refine cd_dec (fun hc => ?_) (fun hc => ?_)
        · obtain ⟨x, hx⟩ : ∃ x, (a ++ b)[j]? = some x := ⟨_, List.getElem?_eq_getElem (by rw [List.length_append]; omega)⟩
          have hstep : textsL ((a ++ b).take (j + 1)) = textsL ((a ++ b).take j) ++ textV x.1 := by rw [take_snoc hx, textsL_snoc]
          have hle := textsL_le ((a ++ b).take j)
          rw [List.length_take, List.length_append] at hle
          have hx80 := textV_len x.1
          repeat' (first | ((first | apply ga_dec | apply ga_ndec | apply cd_dec | apply cd_ndec | apply gd_dec | apply gd_ndec | apply ga_split | apply cd_split | apply gd_split) <;> intro hc <;> (try (simp -implicitDefEqProofs (maxSteps := 2000000) (disch := first | omega | (simp only [vz_push, vz_set, drop_size]; done) | (simp only [vz_push, vz_set, drop_size]; omega)) only [push_cast, seval, f13N0, f13N1, f13N2, hc, g5, g6, g7, g8, g9, hx, eS])) <;> (try (exfalso; omega))) | refine VC_pure (rtext_ok hk _) ?_ | (simp -implicitDefEqProofs (maxSteps := 2000000) (disch := first | omega | (simp only [vz_push, vz_set, drop_size]; done) | (simp only [vz_push, vz_set, drop_size]; omega)) only [push_cast, seval, f13N0, f13N1, f13N2, g5, g6, g7, g8, g9, hx, eS]))
          refine ⟨_ - (j + 1), by omega, j + 1, rfl, by omega, ?_⟩ <;> (try simp only [Int.natCast_add, Int.natCast_one, cast_lit, and_true, true_and, eq_self])
          rw [hstep]
        · have hj2 : j = (a ++ b).length := by omega
          rw [hj2, List.take_length] at g7
          repeat' (first | ((first | apply ga_dec | apply ga_ndec | apply cd_dec | apply cd_ndec | apply gd_dec | apply gd_ndec | apply ga_split | apply cd_split | apply gd_split) <;> intro hc <;> (try (simp -implicitDefEqProofs (maxSteps := 2000000) (disch := first | omega | (simp only [vz_push, vz_set, drop_size]; done) | (simp only [vz_push, vz_set, drop_size]; omega)) only [push_cast, seval, f13N0, f13N1, f13N2, hc, g5, g6, g7, hsv])) <;> (try (exfalso; omega))) | refine haw' ?_ | refine VC_pure (vtext_ok hk cs hlen) ?_ | (simp -implicitDefEqProofs (maxSteps := 2000000) (disch := first | omega | (simp only [vz_push, vz_set, drop_size]; done) | (simp only [vz_push, vz_set, drop_size]; omega)) only [push_cast, seval, f13N0, f13N1, f13N2, g5, g6, g7, hsv]))
  · repeat' (first | ((first | apply ga_dec | apply ga_ndec | apply cd_dec | apply cd_ndec | apply gd_dec | apply gd_ndec | apply ga_split | apply cd_split | apply gd_split) <;> intro hc <;> (try (simp -implicitDefEqProofs (maxSteps := 2000000) (disch := first | omega | (simp only [vz_push, vz_set, drop_size]; done) | (simp only [vz_push, vz_set, drop_size]; omega)) only [push_cast, seval, f13N0, f13N1, f13N2, hc])) <;> (try (exfalso; omega))) | refine haw' ?_ | (simp -implicitDefEqProofs (maxSteps := 2000000) (disch := first | omega | (simp only [vz_push, vz_set, drop_size]; done) | (simp only [vz_push, vz_set, drop_size]; omega)) only [push_cast, seval, f13N0, f13N1, f13N2]))
end
end Go.Proofs.YtpckldhojfjdmaaDoor.Ab
