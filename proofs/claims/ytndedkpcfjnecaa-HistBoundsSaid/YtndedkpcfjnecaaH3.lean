/- Histories: what is added. -/
import Derived.Test.YtndedkpcfjnecaaH2
namespace Go.Proofs.Ytndedkpcfjnecaa.Ab
open Go.Proofs
set_option maxRecDepth 100000
set_option maxHeartbeats 4000000
set_option linter.unusedSimpArgs false
set_option linter.unusedVariables false
set_option linter.unnecessarySimpa false
set_option linter.unusedSectionVars false
@[reducible] def tyE : Ty := ⟨.slice 29, 1, 24, .slice none 0 0⟩
/-- A history at row b: its entries. -/
def Hst (s0 s : VS) (b : Nat) (E : List (List (Int × Int))) (most long : Int) : Prop := ∃ v h, s.get b = some (.own ⟨[v, .c (.int .i64 h), .c (.slice none 0 0), .c (.int .i64 most), .c (.int .i64 long)], 129, 0, 0, false⟩) ∧ s0.size ≤ b ∧ Gt eE s0 s 22 1 v E
def capE (F : List (List (Int × Int))) (most : Int) : List (List (Int × Int)) := if most < F.length then F.drop 1 else F
def addE (E : List (List (Int × Int))) (l : List (Int × Int)) (most : Int) : List (List (Int × Int)) := capE (E.filter (nD l) ++ [l.map (withL 3)]) most
section
variable {k : Nat → List Value → Option Value} (hk : ∀ f, f ≠ 69 → Open k f)
include hk
theorem hnew_ok {s : VS} {most long : Int} (h1 : 1 ≤ most ∧ most ≤ 1000) (h2 : 1 ≤ long ∧ long ≤ 4096) {K : AV → VS → Prop} (hK : ∀ s', Hst s s' s.size [] most long → K (.tup [.ptr ⟨s.size, 0, none⟩, .c (.int .i64 0)]) s') : VC (XK k) 45 [.c (.int .i64 most), .c (.int .i64 long)] s K := by
  refine f45_in (hk _ (by decide)) ?_
  (try (simp -implicitDefEqProofs (maxSteps := 2000000) (disch := first | omega | (simp only [vz_push, vz_set, drop_size]; first | done | omega)) only [push_cast, seval, f45N0, f45N1, rigA])) <;> (repeat' ((first | apply ga_dec | apply ga_ndec | apply cd_dec | apply cd_ndec | apply gd_dec | apply gd_ndec | apply ga_split | apply cd_split | apply gd_split) <;> intro hc <;> try (simp -implicitDefEqProofs (maxSteps := 2000000) (disch := first | omega | (simp only [vz_push, vz_set, drop_size]; first | done | omega)) only [push_cast, seval, f45N0, f45N1, hc, rigA])))
  all_goals (try (exfalso; omega))
  exact hK _ ⟨_, 0, gp_eq rfl, Nat.le_refl _, .nil⟩
theorem deleteE_ok {s0 s : VS} {v : AV} {l : List (List (Int × Int))} (h : Gt eE s0 s 22 1 v l) (hi : 0 < l.length) (hl : l.length < 1000000) {K : AV → VS → Prop}
    (hK : ∀ v' s', Gt eE s0 s' 22 1 v' (l.drop 1) → But s s' v → (blkOf v' = blkOf v) → (∃ a n c, v' = .sl a n c) → K v' s') : VC (XK k) 88 [v, .c (.int .i64 0), .c (.int .i64 1)] s K := by
  refine f88_in (hk _ (by decide)) ?_
  cases h with
  | nil => simp at hi
  | row b sp n N l zs h1 h2 h3 h4 h5 =>
    subst h3
    have hb := VS.lt_of_get h1
    obtain ⟨s1, R, q1, q2, q3, q4, q5⟩ := del_app (te := tyE) len_eE rfl h1 h4 h5 hi one_eE
    have hfl := flat_lenf len_eE l
    have hd := flat_drop len_eE l 1 (by omega)
    have hdr : List.take (l.length - 1) (List.drop 1 ((l.map eE).flatten ++ zs)) = ((l.drop 1).map eE).flatten := by
      rw [Nat.one_mul] at hd
      rw [List.drop_append_of_le_length (by omega), hd, List.take_append_of_le_length (by rw [flat_lenf len_eE, List.length_drop]; omega), List.take_of_length_le (by rw [flat_lenf len_eE, List.length_drop]; omega)]
    obtain ⟨C, hC⟩ : ∃ C, C = (l.map eE).flatten ++ zs := ⟨_, rfl⟩
    rw [← hC] at h1 h4 hdr
    rw [Nat.mul_one] at h4 hfl
    have hE : (l.eraseIdx 0).length = l.length - 1 := by rw [List.length_eraseIdx, if_pos hi]
    have hE1 : l.eraseIdx 0 = l.drop 1 := by cases l <;> simp
    rw [hE1] at hE q2
    have hEl := flat_lenf len_eE (l.drop 1)
    obtain ⟨E, hEE⟩ : ∃ E, E = ((l.drop 1).map eE).flatten := ⟨_, rfl⟩
    rw [← hEE] at q2 hEl
    have hzl : C.length = l.length + zs.length := by rw [hC, List.length_append, flat_lenf len_eE, Nat.mul_one]
    have hcut : List.take (l.length - 1) (E ++ R) ++ [AV.c (.slice none 0 0)] ++ List.drop (l.length - 1 + 1) (E ++ R) = E ++ ([AV.c (.slice none 0 0)] ++ R.drop 1) := by
      rw [List.take_left' (by omega), List.drop_append, List.drop_eq_nil_of_le (by omega), show l.length - 1 + 1 - E.length = 1 by omega, List.append_assoc, List.nil_append]
    have hER : (E ++ R).length = N := by rw [List.length_append]; omega
    have hb1 := VS.lt_of_get q2
    have h11 : l.length - (l.length - 1) = 1 := by omega
    have q1' : appendToA tyE 22 (l.length - 1) (((l.drop 1).map eE).flatten) (.sl ⟨b, 0, sp⟩ 0 (capO N)) s = some (.sl ⟨b, 0, sp⟩ (l.length - 1) (capO N), s1) := q1
    simp -implicitDefEqProofs (maxSteps := 2000000) (disch := first | omega | (simp only [vz_push, vz_set, drop_size]; first | done | omega)) only [push_cast, seval, f88N0, f88N1, h1, h4, hdr, q1', q2, hER, hcut, h11]
    refine hK _ _ (.row b sp (l.length - 1) N (l.drop 1) (AV.c (.slice none 0 0) :: R.drop 1) ?_ h2 hE.symm ?_ (by omega)) ⟨by rw [vz_set, q5]; exact Nat.le_refl _, fun c hc hcb => ?_⟩ rfl ⟨_, _, _, rfl⟩
    · rw [← hEE]
      exact gs_eq rfl hb1
    · rw [← hEE, List.length_append, List.length_cons, List.length_drop]
      rw [List.length_append] at hER
      omega
    · have hne2 : c ≠ b := by rintro rfl; exact hcb rfl
      have := q4 c hne2
      exact ⟨by rw [gs_ne hne2, this.1], by rw [vs_ver hne2, this.2]⟩
theorem rest_ok {s0 s : VS} {b : Nat} {v : AV} {E : List (List (Int × Int))} {h most long : Int} {w : AV} (hb : s.get b = some (.own ⟨[v, .c (.int .i64 h), w, .c (.int .i64 most), .c (.int .i64 long)], 129, 0, 0, false⟩)) (hs : s0.size ≤ b) (hv : Gt eE s0 s 22 1 v E) {K : AV → VS → Prop}
    (hK : ∀ s', Hst s0 s' b E most long → K (.tup []) s') : VC (XK k) 89 [.ptr ⟨b, 0, none⟩] s K := by
  refine f89_in (hk _ (by decide)) ?_
  have z := VS.lt_of_get hb
  have hne : blkOf v ≠ some b := fun e => by
    obtain ⟨_, _, r, q1, q2⟩ := hv.blk e
    rw [hb] at q1
    cases q1
    exact absurd (show (129 : Nat) = 22 from q2) (by decide)
  have fin : ∀ {s1 : VS} {h1 : Int}, s1 = (s.set b (.own ⟨[v, .c (.int .i64 E.length), w, .c (.int .i64 most), .c (.int .i64 long)], 129, 0, 0, false⟩)).set b (.own ⟨[v, .c (.int .i64 E.length), .c (.slice none 0 0), .c (.int .i64 most), .c (.int .i64 long)], 129, 0, 0, false⟩) → Hst s0 s1 b E most long := fun {s1 h1} e => by
    subst e
    exact ⟨v, _, gs_eq rfl (by rw [vz_set]; exact z), hs, (hv.set hne _).set hne _⟩
  cases hv with
  | nil =>
    (try (simp -implicitDefEqProofs (maxSteps := 2000000) (disch := first | omega | (simp only [vz_push, vz_set, drop_size]; first | done | omega)) only [push_cast, seval, f89N0, hb, z])) <;> (repeat' ((first | apply ga_dec | apply ga_ndec | apply cd_dec | apply cd_ndec | apply gd_dec | apply gd_ndec | apply ga_split | apply cd_split | apply gd_split) <;> intro hc <;> try (simp -implicitDefEqProofs (maxSteps := 2000000) (disch := first | omega | (simp only [vz_push, vz_set, drop_size]; first | done | omega)) only [push_cast, seval, f89N0, hc, hb, z])))
    exact hK _ (fin (h1 := 0) rfl)
  | row c sp n N E zs h1 h2 h3 h4 h5 =>
    subst h3
    (try (simp -implicitDefEqProofs (maxSteps := 2000000) (disch := first | omega | (simp only [vz_push, vz_set, drop_size]; first | done | omega)) only [push_cast, seval, f89N0, hb, z])) <;> (repeat' ((first | apply ga_dec | apply ga_ndec | apply cd_dec | apply cd_ndec | apply gd_dec | apply gd_ndec | apply ga_split | apply cd_split | apply gd_split) <;> intro hc <;> try (simp -implicitDefEqProofs (maxSteps := 2000000) (disch := first | omega | (simp only [vz_push, vz_set, drop_size]; first | done | omega)) only [push_cast, seval, f89N0, hc, hb, z])))
    exact hK _ (fin (h1 := 0) rfl)
theorem hall_ok {s0 s : VS} {b : Nat} {E : List (List (Int × Int))} {most long : Int} (h : Hst s0 s b E most long) (hE : E.length < 1000) (hl : ∀ e ∈ E, e.length < 1000) {K : AV → VS → Prop} (hK : K (LLS E) s) : VC (XK k) 47 [.ptr ⟨b, 0, none⟩] s K := by
  refine VC_cut (Q := K) ?_
  suffices hsuf : VC (XK k) 47 [.ptr ⟨b, 0, none⟩] s (outP (XK k) s (LLS E)) from VC_mono hsuf fun v vs' ⟨h1, h2⟩ => ⟨s.size, LLS E, s, Cut.keep h1, h2, hK⟩
  refine f47_in (hk _ (by decide)) ?_
  obtain ⟨v, hd, h1, h2, h3⟩ := h
  have z := VS.lt_of_get h1
  have hroom : roomOk E.length 24 = true := (room_ok (by constructor <;> (try dsimp only) <;> omega))
  cases h3 with
  | nil =>
    have hr0 : roomOk 0 24 = true := by decide
    (try (simp -implicitDefEqProofs (maxSteps := 2000000) (disch := first | omega | (simp only [vz_push, vz_set, drop_size]; first | done | omega)) only [push_cast, seval, f47N0, f47N1, f47N2, h1, z, hr0])) <;> (repeat' ((first | apply ga_dec | apply ga_ndec | apply cd_dec | apply cd_ndec | apply gd_dec | apply gd_ndec | apply ga_split | apply cd_split | apply gd_split) <;> intro hc <;> try (simp -implicitDefEqProofs (maxSteps := 2000000) (disch := first | omega | (simp only [vz_push, vz_set, drop_size]; first | done | omega)) only [push_cast, seval, f47N0, f47N1, f47N2, hc, h1, z, hr0])))
    refine VW_iter (fun m ρ s' => ∃ i : Nat, m = 0 - i ∧ i ≤ 0 ∧ ρ.get 3 = .sl ⟨s.size, 0, none⟩ 0 (capX 0) ∧ ρ.get 18 = .c (.int .i64 0) ∧ ρ.get 19 = .c (.int .i64 i) ∧ (KeepA s s' ∧ Gw s s' 22 1 (.sl ⟨s.size, 0, none⟩ 0 (capX 0)) 0 [])) (0) ⟨0, rfl, Nat.zero_le _, by (((try simp -implicitDefEqProofs only [eA_tmp, eA_const, AEnv.get_set, ofA_get, List.getD_cons_zero, List.getD_cons_succ, ↓reduceIte, reduceCtorEq, Nat.reduceEqDiff]); try (first | (with_reducible assumption) | (with_reducible rfl) | (congr 2 <;> omega) | rfl))), by (((try simp -implicitDefEqProofs only [eA_tmp, eA_const, AEnv.get_set, ofA_get, List.getD_cons_zero, List.getD_cons_succ, ↓reduceIte, reduceCtorEq, Nat.reduceEqDiff]); try (first | (with_reducible assumption) | (with_reducible rfl) | (congr 2 <;> omega) | rfl))), by (((try simp -implicitDefEqProofs only [eA_tmp, eA_const, AEnv.get_set, ofA_get, List.getD_cons_zero, List.getD_cons_succ, ↓reduceIte, reduceCtorEq, Nat.reduceEqDiff]); try (first | (with_reducible assumption) | (with_reducible rfl) | (congr 2 <;> omega) | rfl))), ⟨by (repeat first | assumption | exact KeepA.refl _ | apply KeepA.push | refine KeepA.set ?_ (by first | omega | (simp only [vz_push, vz_set, drop_size]; omega) | (have h9 := KeepA.size_le (by assumption); (try simp only [vz_push, vz_set, drop_size] at *); omega)) _ | refine KeepA.drop ?_ (by first | omega | (simp only [vz_push, vz_set, drop_size]; omega) | (have h9 := KeepA.size_le (by assumption); (try simp only [vz_push, vz_set, drop_size] at *); omega)) | refine KeepA.trans ?_ (by assumption)), Gw.room s.size 0 0 [] _ _ (gp_eq rfl) (Nat.le_refl _) (by simp) (by simp [reps_len]) (Nat.zero_le _)⟩⟩ ?_
    rintro m ρ s' ⟨i, rfl, hi, g3, g18, g19, j1⟩
    (try (simp -implicitDefEqProofs (maxSteps := 2000000) (disch := first | omega | (simp only [vz_push, vz_set, drop_size]; first | done | omega)) only [push_cast, seval, f47N0, f47N1, f47N2, g3, g18, g19])) <;> (repeat' ((first | apply ga_dec | apply ga_ndec | apply cd_dec | apply cd_ndec | apply gd_dec | apply gd_ndec | apply ga_split | apply cd_split | apply gd_split) <;> intro hc <;> try (simp -implicitDefEqProofs (maxSteps := 2000000) (disch := first | omega | (simp only [vz_push, vz_set, drop_size]; first | done | omega)) only [push_cast, seval, f47N0, f47N1, f47N2, hc, g3, g18, g19])))
    all_goals (try (exfalso; omega))
    exact j1.2.outm (l := ([] : List (List (Int × Int)))) (f := eE) j1.1 len_eE firm_eE (by omega)
  | row c sp n N E zs q1 q2 q3 q4 q5 =>
    subst q3
    rw [flatE] at q1 q4
    have z2 := VS.lt_of_get q1
    have hcl : (E.map LS ++ zs).length = N := by rw [q4, Nat.mul_one]
    (try (simp -implicitDefEqProofs (maxSteps := 2000000) (disch := first | omega | (simp only [vz_push, vz_set, drop_size]; first | done | omega)) only [push_cast, seval, f47N0, f47N1, f47N2, h1, z, hroom])) <;> (repeat' ((first | apply ga_dec | apply ga_ndec | apply cd_dec | apply cd_ndec | apply gd_dec | apply gd_ndec | apply ga_split | apply cd_split | apply gd_split) <;> intro hc <;> try (simp -implicitDefEqProofs (maxSteps := 2000000) (disch := first | omega | (simp only [vz_push, vz_set, drop_size]; first | done | omega)) only [push_cast, seval, f47N0, f47N1, f47N2, hc, h1, z, hroom])))
    refine VW_iter (fun m ρ s' => ∃ i : Nat, m = E.length - i ∧ i ≤ E.length ∧ ρ.get 17 = .sl ⟨c, 0, sp⟩ E.length (capO N) ∧ ρ.get 18 = .c (.int .i64 E.length) ∧ ρ.get 19 = .c (.int .i64 i) ∧ (Gw s s' 22 1 (ρ.get 3) i ((E.take i).map eE).flatten) ∧ (KeepA s s')) (E.length) ⟨0, rfl, Nat.zero_le _, by (((try simp -implicitDefEqProofs only [eA_tmp, eA_const, AEnv.get_set, ofA_get, List.getD_cons_zero, List.getD_cons_succ, ↓reduceIte, reduceCtorEq, Nat.reduceEqDiff]); try (first | (with_reducible assumption) | (with_reducible rfl) | (congr 2 <;> omega) | rfl))), by (((try simp -implicitDefEqProofs only [eA_tmp, eA_const, AEnv.get_set, ofA_get, List.getD_cons_zero, List.getD_cons_succ, ↓reduceIte, reduceCtorEq, Nat.reduceEqDiff]); try (first | (with_reducible assumption) | (with_reducible rfl) | (congr 2 <;> omega) | rfl))), by (((try simp -implicitDefEqProofs only [eA_tmp, eA_const, AEnv.get_set, ofA_get, List.getD_cons_zero, List.getD_cons_succ, ↓reduceIte, reduceCtorEq, Nat.reduceEqDiff]); try (first | (with_reducible assumption) | (with_reducible rfl) | (congr 2 <;> omega) | rfl))), (by (((try simp -implicitDefEqProofs only [eA_tmp, eA_const, AEnv.get_set, ofA_get, List.getD_cons_zero, List.getD_cons_succ, ↓reduceIte, reduceCtorEq, Nat.reduceEqDiff]); try (first | (with_reducible assumption) | (with_reducible rfl) | (congr 2 <;> omega) | rfl))); refine (Gw.room s.size 0 E.length [] _ _ (gp_eq rfl) (Nat.le_refl _) (by simp) ?_ (Nat.zero_le _)).cast rfl rfl; simp [reps_len]), by (repeat first | assumption | exact KeepA.refl _ | apply KeepA.push | refine KeepA.set ?_ (by first | omega | (simp only [vz_push, vz_set, drop_size]; omega) | (have h9 := KeepA.size_le (by assumption); (try simp only [vz_push, vz_set, drop_size] at *); omega)) _ | refine KeepA.drop ?_ (by first | omega | (simp only [vz_push, vz_set, drop_size]; omega) | (have h9 := KeepA.size_le (by assumption); (try simp only [vz_push, vz_set, drop_size] at *); omega)) | refine KeepA.trans ?_ (by assumption))⟩ ?_
    rintro m ρ s' ⟨i, rfl, hi, g17, g18, g19, j1, j2⟩
    obtain ⟨v3, g3⟩ : ∃ v3, ρ.get 3 = v3 := ⟨_, rfl⟩
    rw [g3] at j1
    have q1' := j2.get q1
    have z3 := VS.lt_of_get q1'
    by_cases c1 : i < E.length
    · have he := List.getElem?_eq_getElem c1
      have hmem := List.getElem_mem c1
      have hle := hl _ hmem
      generalize E[i] = e at he hle
      have hrd : List.take 1 (List.drop i (E.map LS ++ zs)) = [LS e] := by
        rw [List.drop_append_of_le_length (by rw [List.length_map]; omega), ← List.map_drop, drop_at he]
        rfl
      (try (simp -implicitDefEqProofs (maxSteps := 2000000) (disch := first | omega | (simp only [vz_push, vz_set, drop_size]; first | done | omega)) only [push_cast, seval, f47N0, f47N1, f47N2, g3, g17, g18, g19, q1', z3, hcl, hrd])) <;> (repeat' ((first | apply ga_dec | apply ga_ndec | apply cd_dec | apply cd_ndec | apply gd_dec | apply gd_ndec | apply ga_split | apply cd_split | apply gd_split) <;> intro hc <;> try (simp -implicitDefEqProofs (maxSteps := 2000000) (disch := first | omega | (simp only [vz_push, vz_set, drop_size]; first | done | omega)) only [push_cast, seval, f47N0, f47N1, f47N2, hc, g3, g17, g18, g19, q1', z3, hcl, hrd])))
      all_goals (try (exfalso; omega))
      refine VC_pure (clone_ok hk e (by omega)) ?_
      (try (simp -implicitDefEqProofs (maxSteps := 2000000) (disch := first | omega | (simp only [vz_push, vz_set, drop_size]; first | done | omega)) only [push_cast, seval, f47N0, f47N1, f47N2, g3, g17, g18, g19, q1', z3, hcl, hrd])) <;> (repeat' ((first | apply ga_dec | apply ga_ndec | apply cd_dec | apply cd_ndec | apply gd_dec | apply gd_ndec | apply ga_split | apply cd_split | apply gd_split) <;> intro hc <;> try (simp -implicitDefEqProofs (maxSteps := 2000000) (disch := first | omega | (simp only [vz_push, vz_set, drop_size]; first | done | omega)) only [push_cast, seval, f47N0, f47N1, f47N2, hc, g3, g17, g18, g19, q1', z3, hcl, hrd])))
      refine Gw.step (sz := 1) (j1.push _) (by (repeat first | assumption | exact KeepA.refl _ | apply KeepA.push | refine KeepA.set ?_ (by first | omega | (simp only [vz_push, vz_set, drop_size]; omega) | (have h9 := KeepA.size_le (by assumption); (try simp only [vz_push, vz_set, drop_size] at *); omega)) _ | refine KeepA.drop ?_ (by first | omega | (simp only [vz_push, vz_set, drop_size]; omega) | (have h9 := KeepA.size_le (by assumption); (try simp only [vz_push, vz_set, drop_size] at *); omega)) | refine KeepA.trans ?_ (by assumption))) rfl rfl rfl (room_ok (by constructor <;> (try dsimp only) <;> omega)) ?_
      intro v' s2 hg hbt hn hk'
      (try (simp -implicitDefEqProofs (maxSteps := 2000000) (disch := first | omega | (simp only [vz_push, vz_set, drop_size]; first | done | omega)) only [push_cast, seval, f47N0, f47N1, f47N2, g3, g17, g18, g19])) <;> (repeat' ((first | apply ga_dec | apply ga_ndec | apply cd_dec | apply cd_ndec | apply gd_dec | apply gd_ndec | apply ga_split | apply cd_split | apply gd_split) <;> intro hc <;> try (simp -implicitDefEqProofs (maxSteps := 2000000) (disch := first | omega | (simp only [vz_push, vz_set, drop_size]; first | done | omega)) only [push_cast, seval, f47N0, f47N1, f47N2, hc, g3, g17, g18, g19])))
      refine ⟨_ - (i + 1), by omega, i + 1, rfl, by omega, congrArg (fun z => AV.c (.int .i64 z)) (by omega), hg.cast rfl ?_, hk'⟩
      rw [take_snoc he, List.map_append, List.flatten_append]
      rfl
    · have hi2 : i = E.length := by omega
      subst hi2
      rw [List.take_length] at j1
      (try (simp -implicitDefEqProofs (maxSteps := 2000000) (disch := first | omega | (simp only [vz_push, vz_set, drop_size]; first | done | omega)) only [push_cast, seval, f47N0, f47N1, f47N2, g3, g17, g18, g19])) <;> (repeat' ((first | apply ga_dec | apply ga_ndec | apply cd_dec | apply cd_ndec | apply gd_dec | apply gd_ndec | apply ga_split | apply cd_split | apply gd_split) <;> intro hc <;> try (simp -implicitDefEqProofs (maxSteps := 2000000) (disch := first | omega | (simp only [vz_push, vz_set, drop_size]; first | done | omega)) only [push_cast, seval, f47N0, f47N1, f47N2, hc, g3, g17, g18, g19])))
      all_goals (try (exfalso; omega))
      exact j1.outm (f := eE) j2 len_eE firm_eE (by omega)
end
end Go.Proofs.Ytndedkpcfjnecaa.Ab
