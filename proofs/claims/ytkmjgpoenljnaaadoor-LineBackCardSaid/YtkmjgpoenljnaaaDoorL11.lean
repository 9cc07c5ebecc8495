/- Lines: letters that change. -/
import Derived.Test.YtkmjgpoenljnaaaDoorL10
namespace Go.Proofs.YtkmjgpoenljnaaaDoor.Ab
open Go.Proofs
set_option maxRecDepth 100000
set_option maxHeartbeats 4000000
set_option linter.unusedSimpArgs false
set_option linter.unusedVariables false
set_option linter.unnecessarySimpa false
set_option linter.unusedSectionVars false
/-- The small letter of a letter. -/
def smallI (v : Int) : Int := if 65 ≤ v ∧ v ≤ 90 then v + 32 else v
def turnI (how v : Int) (first : Bool) : Int := if how = 0 ∨ (how = 2 ∧ first = true) then capI v else if how = 1 ∨ how = 2 then smallI v else v
theorem cap_turn (how v : Int) (b : Bool) : capI (turnI how v b) = capI v := by
  unfold turnI capI smallI
  (repeat' split) <;> omega
def firstAt (l : List (Int × Int)) (i : Nat) : Bool := match i with
  | 0 => true
  | j + 1 => match l[j]? with
    | some p => decide (kd p.1 ≠ 1)
    | none => true
def caseStep (how : Int) (l : List (Int × Int)) (i : Nat) : List (Int × Int) := match l[i]? with
  | some p => l.set i (turnI how p.1 (firstAt l i), p.2)
  | none => l
def caseL (how : Int) (l : List (Int × Int)) (lo : Nat) : Nat → List (Int × Int)
  | 0 => l
  | n + 1 => caseStep how (caseL how l lo n) (lo + n)
theorem caseStep_len (how : Int) (l : List (Int × Int)) (i : Nat) : (caseStep how l i).length = l.length := by
  unfold caseStep
  split
  · rw [List.length_set]
  · rfl
theorem caseL_len (how : Int) (l : List (Int × Int)) (lo : Nat) : ∀ n, (caseL how l lo n).length = l.length
  | 0 => rfl
  | n + 1 => by rw [caseL, caseStep_len, caseL_len how l lo n]
/-- The same label, and the same letter. -/
def Alike (l m : List (Int × Int)) : Prop := m.length = l.length ∧ ∀ (i : Nat) (p q : Int × Int), l[i]? = some p → m[i]? = some q → q.2 = p.2 ∧ capI q.1 = capI p.1
theorem caseStep_alike {how : Int} {l m : List (Int × Int)} (i : Nat) (h : Alike l m) : Alike l (caseStep how m i) := by
  refine ⟨by rw [caseStep_len]; exact h.1, fun j p q hp hq => ?_⟩
  unfold caseStep at hq
  split at hq
  · rename_i r hr
    rw [List.getElem?_set] at hq
    split at hq
    · rename_i hij
      subst hij
      split at hq
      · cases hq
        have := h.2 i p r hp hr
        exact ⟨this.1, by show capI (turnI how r.1 _) = _; rw [cap_turn]; exact this.2⟩
      · cases hq
    · exact h.2 j p q hp hq
  · exact h.2 j p q hp hq
theorem caseL_alike (how : Int) (l : List (Int × Int)) (lo : Nat) : ∀ n, Alike l (caseL how l lo n)
  | 0 => ⟨rfl, fun i p q hp hq => by rw [show (caseL how l lo 0) = l from rfl] at hq; rw [hp] at hq; cases hq; exact ⟨rfl, rfl⟩⟩
  | n + 1 => caseStep_alike _ (caseL_alike how l lo n)
section
variable {k : Nat → List Value → Option Value} (hk : ∀ f, Open k f)
include hk
theorem turn1_ok (v : Int) : PC (XK k) 107 [.c (.int .i64 v)] (.c (.int .i64 (capI v))) := by
  refine PC_of fun s => ?_
  refine f107_in (hk _) ?_
  (try (simp -implicitDefEqProofs (maxSteps := 2000000) (disch := first | omega | (simp only [vz_push, vz_set, drop_size]; done) | (simp only [vz_push, vz_set, drop_size]; omega)) only [push_cast, seval, f107N0, f107N1])) <;> (repeat' ((first | apply ga_dec | apply ga_ndec | apply cd_dec | apply cd_ndec | apply gd_dec | apply gd_ndec | apply ga_split | apply cd_split | apply gd_split) <;> intro hc <;> try (simp -implicitDefEqProofs (maxSteps := 2000000) (disch := first | omega | (simp only [vz_push, vz_set, drop_size]; done) | (simp only [vz_push, vz_set, drop_size]; omega)) only [push_cast, seval, f107N0, f107N1, hc])))
  all_goals exact out_int (by (repeat first | assumption | exact KeepA.refl _ | apply KeepA.push | refine KeepA.set ?_ (by first | omega | (simp only [vz_push, vz_set, drop_size]; omega) | (have h9 := KeepA.size_le (by assumption); (try simp only [vz_push, vz_set, drop_size] at *); omega)) _ | refine KeepA.drop ?_ (by first | omega | (simp only [vz_push, vz_set, drop_size]; omega) | (have h9 := KeepA.size_le (by assumption); (try simp only [vz_push, vz_set, drop_size] at *); omega)) | refine KeepA.trans ?_ (by assumption))) (by unfold capI; split <;> omega)
theorem turn2_ok (v : Int) : PC (XK k) 108 [.c (.int .i64 v)] (.c (.int .i64 (smallI v))) := by
  refine PC_of fun s => ?_
  refine f108_in (hk _) ?_
  (try (simp -implicitDefEqProofs (maxSteps := 2000000) (disch := first | omega | (simp only [vz_push, vz_set, drop_size]; done) | (simp only [vz_push, vz_set, drop_size]; omega)) only [push_cast, seval, f108N0, f108N1])) <;> (repeat' ((first | apply ga_dec | apply ga_ndec | apply cd_dec | apply cd_ndec | apply gd_dec | apply gd_ndec | apply ga_split | apply cd_split | apply gd_split) <;> intro hc <;> try (simp -implicitDefEqProofs (maxSteps := 2000000) (disch := first | omega | (simp only [vz_push, vz_set, drop_size]; done) | (simp only [vz_push, vz_set, drop_size]; omega)) only [push_cast, seval, f108N0, f108N1, hc])))
  all_goals exact out_int (by (repeat first | assumption | exact KeepA.refl _ | apply KeepA.push | refine KeepA.set ?_ (by first | omega | (simp only [vz_push, vz_set, drop_size]; omega) | (have h9 := KeepA.size_le (by assumption); (try simp only [vz_push, vz_set, drop_size] at *); omega)) _ | refine KeepA.drop ?_ (by first | omega | (simp only [vz_push, vz_set, drop_size]; omega) | (have h9 := KeepA.size_le (by assumption); (try simp only [vz_push, vz_set, drop_size] at *); omega)) | refine KeepA.trans ?_ (by assumption))) (by unfold smallI; split <;> omega)
theorem turn3_ok (v how : Int) (b : Bool) : PC (XK k) 109 [.c (.int .i64 v), .c (.bool b), .fptr [.c (.int .i64 how)] 0, .fptr [.fn 107 [] []] 0, .fptr [.fn 108 [] []] 0] (.c (.int .i64 (turnI how v b))) := by
  refine PC_of fun s => ?_
  refine f109_in (hk _) ?_
  unfold turnI
  repeat' (first | ((first | apply ga_dec | apply ga_ndec | apply cd_dec | apply cd_ndec | apply gd_dec | apply gd_ndec | apply ga_split | apply cd_split | apply gd_split) <;> intro hc <;> (try (simp -implicitDefEqProofs (maxSteps := 2000000) (disch := first | omega | (simp only [vz_push, vz_set, drop_size]; done) | (simp only [vz_push, vz_set, drop_size]; omega)) only [push_cast, seval, f109N0, f109N1, f109N2, hc])) <;> (try (exfalso; omega))) | refine VC_pure (turn1_ok hk _) ?_ | refine VC_pure (turn2_ok hk _) ?_ | (simp -implicitDefEqProofs (maxSteps := 2000000) (disch := first | omega | (simp only [vz_push, vz_set, drop_size]; done) | (simp only [vz_push, vz_set, drop_size]; omega)) only [push_cast, seval, f109N0, f109N1, f109N2]))
  all_goals exact out_int (by (repeat first | assumption | exact KeepA.refl _ | apply KeepA.push | refine KeepA.set ?_ (by first | omega | (simp only [vz_push, vz_set, drop_size]; omega) | (have h9 := KeepA.size_le (by assumption); (try simp only [vz_push, vz_set, drop_size] at *); omega)) _ | refine KeepA.drop ?_ (by first | omega | (simp only [vz_push, vz_set, drop_size]; omega) | (have h9 := KeepA.size_le (by assumption); (try simp only [vz_push, vz_set, drop_size] at *); omega)) | refine KeepA.trans ?_ (by assumption))) (by (repeat' split) <;> simp_all <;> omega)
@[reducible] def turnF (how : Int) : AV := .fn 109 [] [.fptr [.c (.int .i64 how)] 0, .fptr [.fn 107 [] []] 0, .fptr [.fn 108 [] []] 0]
theorem turner_ok (how : Int) : PC (XK k) 74 [.c (.int .i64 how)] (turnF how) := by
  refine PC_of fun s => ?_
  refine f74_in (hk _) ?_
  (try (simp -implicitDefEqProofs (maxSteps := 2000000) (disch := first | omega | (simp only [vz_push, vz_set, drop_size]; done) | (simp only [vz_push, vz_set, drop_size]; omega)) only [push_cast, seval, f74N0])) <;> (repeat' ((first | apply ga_dec | apply ga_ndec | apply cd_dec | apply cd_ndec | apply gd_dec | apply gd_ndec | apply ga_split | apply cd_split | apply gd_split) <;> intro hc <;> try (simp -implicitDefEqProofs (maxSteps := 2000000) (disch := first | omega | (simp only [vz_push, vz_set, drop_size]; done) | (simp only [vz_push, vz_set, drop_size]; omega)) only [push_cast, seval, f74N0, hc])))
  refine ⟨by (repeat first | assumption | exact KeepA.refl _ | apply KeepA.push | refine KeepA.set ?_ (by first | omega | (simp only [vz_push, vz_set, drop_size]; omega) | (have h9 := KeepA.size_le (by assumption); (try simp only [vz_push, vz_set, drop_size] at *); omega)) _ | refine KeepA.drop ?_ (by first | omega | (simp only [vz_push, vz_set, drop_size]; omega) | (have h9 := KeepA.size_le (by assumption); (try simp only [vz_push, vz_set, drop_size] at *); omega)) | refine KeepA.trans ?_ (by assumption)), Se.fn Ses.nil (Ses.cons (Se.box (b := s.size) (e := 3) (by (simp -implicitDefEqProofs (disch := first | omega | (simp only [vz_push, vz_set, drop_size]; done) | (simp only [vz_push, vz_set, drop_size]; omega)) only [drop_ne, gp_ne, gp_eq, gs_ne, gs_eq])) (by omega) (Se.c _)) (Ses.cons (Se.box (b := s.size + 1) (e := 103) (by (simp -implicitDefEqProofs (disch := first | omega | (simp only [vz_push, vz_set, drop_size]; done) | (simp only [vz_push, vz_set, drop_size]; omega)) only [drop_ne, gp_ne, gp_eq, gs_ne, gs_eq])) (by omega) (Se.firm (Firm.fn all_nil all_nil))) (Ses.cons (Se.box (b := s.size + 1 + 1) (e := 103) (by (simp -implicitDefEqProofs (disch := first | omega | (simp only [vz_push, vz_set, drop_size]; done) | (simp only [vz_push, vz_set, drop_size]; omega)) only [drop_ne, gp_ne, gp_eq, gs_ne, gs_eq])) (by omega) (Se.firm (Firm.fn all_nil all_nil))) Ses.nil)))⟩
omit hk in
/-- Concat's call, its row handed over. -/
theorem concat_row {s : VS} {b n : Nat} {K : AV → VS → Prop} (ls : List (List (Int × Int))) (hk : ∀ f, Open k f) (hg : s.get b = some (.own ⟨ls.map LS, 22, 0, 0, false⟩)) (hn : ls.length = n) (h1 : n < 1000) (h2 : ls.flatten.length < 1000000)
    (h : ∀ v s1, KeepA (s.drop (· = b)) s1 → Own1 s.size s1 v ls.flatten → K v s1) : VC (XK k) 64 [.sl ⟨b, 0, none⟩ n (capX n)] s K := by
  refine VC_row hg (by rw [List.length_map]; exact hn) (FirmR.map fun _ => Firm.LS _) ?_
  have e : AV.lst 1 ((ls.map LS).map fun v => [v]) = LLS ls := by
    unfold LLS
    rw [List.map_map]
    rfl
  rw [e]
  refine VC_mono (concat_gr hk ls (by omega) h2 _) ?_
  rintro v s1 ⟨hkp, hv⟩
  exact h v s1 hkp hv
omit hk in
theorem Own1.cases {n : Nat} {s : VS} {v : AV} {l : List (Int × Int)} (h : Own1 n s v l) : (v = .c (.slice none 0 0) ∧ l = []) ∨ ∃ b, v = .sl ⟨b, 0, none⟩ l.length (capO l.length) ∧ s.get b = some (.own ⟨(l.map eS).flatten, 39, 0, 0, false⟩) ∧ n ≤ b := h
theorem case_ok (x : Ln) (to how : Int) (hn : x.1.length < 100000) : PC (XK k) 26 [.agg (eL x), .c (.int .i64 to), .c (.int .i64 how)]
    (.agg (eL (caseL how x.1 (spLo x.1.length x.2 to) (spHi x.1.length x.2 to - spLo x.1.length x.2 to), (spHi x.1.length x.2 to : Nat)))) := by
  refine PC_of fun s => ?_
  refine f26_in (hk _) ?_
  (try (simp -implicitDefEqProofs (maxSteps := 2000000) (disch := first | omega | (simp only [vz_push, vz_set, drop_size]; done) | (simp only [vz_push, vz_set, drop_size]; omega)) only [push_cast, seval, f26N0, f26N1, f26N2, eL])) <;> (repeat' ((first | apply ga_dec | apply ga_ndec | apply cd_dec | apply cd_ndec | apply gd_dec | apply gd_ndec | apply ga_split | apply cd_split | apply gd_split) <;> intro hc <;> try (simp -implicitDefEqProofs (maxSteps := 2000000) (disch := first | omega | (simp only [vz_push, vz_set, drop_size]; done) | (simp only [vz_push, vz_set, drop_size]; omega)) only [push_cast, seval, f26N0, f26N1, f26N2, hc, eL])))
  refine VC_pure (span_ok hk x _ _ (by omega)) ?_
  have hhi : spHi x.1.length x.2 to ≤ x.1.length := by have := placeI_le x.1.length x.2; have := placeI_le x.1.length to; unfold spHi; omega
  have hlh : spLo x.1.length x.2 to ≤ spHi x.1.length x.2 to := by unfold spLo spHi; omega
  generalize spLo x.1.length x.2 to = lo at *
  generalize spHi x.1.length x.2 to = hi at *
  (try (simp -implicitDefEqProofs (maxSteps := 2000000) (disch := first | omega | (simp only [vz_push, vz_set, drop_size]; done) | (simp only [vz_push, vz_set, drop_size]; omega)) only [push_cast, seval, f26N0, f26N1, f26N2, eL])) <;> (repeat' ((first | apply ga_dec | apply ga_ndec | apply cd_dec | apply cd_ndec | apply gd_dec | apply gd_ndec | apply ga_split | apply cd_split | apply gd_split) <;> intro hc <;> try (simp -implicitDefEqProofs (maxSteps := 2000000) (disch := first | omega | (simp only [vz_push, vz_set, drop_size]; done) | (simp only [vz_push, vz_set, drop_size]; omega)) only [push_cast, seval, f26N0, f26N1, f26N2, hc, eL])))
  refine concat_row [x.1] hk (gp_eq (by simp only [vz_push])) rfl (by omega) (by simp; omega) ?_
  simp only [List.flatten_cons, List.flatten_nil, List.append_nil]
  intro v s1 hkp hv
  have hg := hkp.gets
  have hw := hkp.vers
  have hsz : s.size + 3 ≤ s1.size := hkp.1
  simp only [vz_push, drop_size] at hg hw hv
  have hks : KeepA s s1 := by (repeat first | assumption | exact KeepA.refl _ | apply KeepA.push | refine KeepA.set ?_ (by first | omega | (simp only [vz_push, vz_set, drop_size]; omega) | (have h9 := KeepA.size_le (by assumption); (try simp only [vz_push, vz_set, drop_size] at *); omega)) _ | refine KeepA.drop ?_ (by first | omega | (simp only [vz_push, vz_set, drop_size]; omega) | (have h9 := KeepA.size_le (by assumption); (try simp only [vz_push, vz_set, drop_size] at *); omega)) | refine KeepA.trans ?_ (by assumption))
  clear hkp
  rcases hv.cases with ⟨rfl, h0⟩ | ⟨b, rfl, hgb, hb⟩
  · have h00 : hi = 0 := by rw [h0] at hhi; simpa using hhi
    have h01 : lo = 0 := by omega
    subst h00 h01
    (try (simp -implicitDefEqProofs (maxSteps := 2000000) (disch := first | omega | (simp only [vz_push, vz_set, drop_size]; done) | (simp only [vz_push, vz_set, drop_size]; omega)) only [push_cast, seval, f26N0, f26N1, f26N2, hg, hw])) <;> (repeat' ((first | apply ga_dec | apply ga_ndec | apply cd_dec | apply cd_ndec | apply gd_dec | apply gd_ndec | apply ga_split | apply cd_split | apply gd_split) <;> intro hc <;> try (simp -implicitDefEqProofs (maxSteps := 2000000) (disch := first | omega | (simp only [vz_push, vz_set, drop_size]; done) | (simp only [vz_push, vz_set, drop_size]; omega)) only [push_cast, seval, f26N0, f26N1, f26N2, hc, hg, hw])))
    refine VC_pure (turner_ok hk how) ?_
    (try (simp -implicitDefEqProofs (maxSteps := 2000000) (disch := first | omega | (simp only [vz_push, vz_set, drop_size]; done) | (simp only [vz_push, vz_set, drop_size]; omega)) only [push_cast, seval, f26N0, f26N1, f26N2, hg, hw])) <;> (repeat' ((first | apply ga_dec | apply ga_ndec | apply cd_dec | apply cd_ndec | apply gd_dec | apply gd_ndec | apply ga_split | apply cd_split | apply gd_split) <;> intro hc <;> try (simp -implicitDefEqProofs (maxSteps := 2000000) (disch := first | omega | (simp only [vz_push, vz_set, drop_size]; done) | (simp only [vz_push, vz_set, drop_size]; omega)) only [push_cast, seval, f26N0, f26N1, f26N2, hc, hg, hw])))
    refine VW_iter (fun m ρ s' => ∃ i : Nat, m = 0 - i ∧ i ≤ 0 ∧ ρ.get 6 = .ptr ⟨s.size + 1, 0, none⟩ ∧ ρ.get 8 = .c (.int .i64 0) ∧ ρ.get 9 = .c (.slice none 0 0) ∧ ρ.get 11 = .c (.int .i64 0) ∧ (s' = s1)) (0) ⟨0, rfl, Nat.zero_le _, by (((try simp -implicitDefEqProofs only [eA_tmp, eA_const, AEnv.get_set, ofA_get, List.getD_cons_zero, List.getD_cons_succ, ↓reduceIte, reduceCtorEq, Nat.reduceEqDiff]); try (first | (with_reducible assumption) | (with_reducible rfl) | (congr 2 <;> omega) | rfl))), by (((try simp -implicitDefEqProofs only [eA_tmp, eA_const, AEnv.get_set, ofA_get, List.getD_cons_zero, List.getD_cons_succ, ↓reduceIte, reduceCtorEq, Nat.reduceEqDiff]); try (first | (with_reducible assumption) | (with_reducible rfl) | (congr 2 <;> omega) | rfl))), by (((try simp -implicitDefEqProofs only [eA_tmp, eA_const, AEnv.get_set, ofA_get, List.getD_cons_zero, List.getD_cons_succ, ↓reduceIte, reduceCtorEq, Nat.reduceEqDiff]); try (first | (with_reducible assumption) | (with_reducible rfl) | (congr 2 <;> omega) | rfl))), by (((try simp -implicitDefEqProofs only [eA_tmp, eA_const, AEnv.get_set, ofA_get, List.getD_cons_zero, List.getD_cons_succ, ↓reduceIte, reduceCtorEq, Nat.reduceEqDiff]); try (first | (with_reducible assumption) | (with_reducible rfl) | (congr 2 <;> omega) | rfl))), rfl⟩ ?_
    rintro m ρ s' ⟨i, rfl, hi, g6, g8, g9, g11, j1⟩
    subst j1
    (try (simp -implicitDefEqProofs (maxSteps := 2000000) (disch := first | omega | (simp only [vz_push, vz_set, drop_size]; done) | (simp only [vz_push, vz_set, drop_size]; omega)) only [push_cast, seval, f26N0, f26N1, f26N2, g6, g8, g9, g11, hg, hw])) <;> (repeat' ((first | apply ga_dec | apply ga_ndec | apply cd_dec | apply cd_ndec | apply gd_dec | apply gd_ndec | apply ga_split | apply cd_split | apply gd_split) <;> intro hc <;> try (simp -implicitDefEqProofs (maxSteps := 2000000) (disch := first | omega | (simp only [vz_push, vz_set, drop_size]; done) | (simp only [vz_push, vz_set, drop_size]; omega)) only [push_cast, seval, f26N0, f26N1, f26N2, hc, g6, g8, g9, g11, hg, hw])))
    exact out_line (by (repeat first | assumption | exact KeepA.refl _ | apply KeepA.push | refine KeepA.set ?_ (by first | omega | (simp only [vz_push, vz_set, drop_size]; omega) | (have h9 := KeepA.size_le (by assumption); (try simp only [vz_push, vz_set, drop_size] at *); omega)) _ | refine KeepA.drop ?_ (by first | omega | (simp only [vz_push, vz_set, drop_size]; omega) | (have h9 := KeepA.size_le (by assumption); (try simp only [vz_push, vz_set, drop_size] at *); omega)) | refine KeepA.trans ?_ (by assumption))) (by rw [h0]; exact Se.nil _) rfl
  · (try (simp -implicitDefEqProofs (maxSteps := 2000000) (disch := first | omega | (simp only [vz_push, vz_set, drop_size]; done) | (simp only [vz_push, vz_set, drop_size]; omega)) only [push_cast, seval, f26N0, f26N1, f26N2, hg, hw])) <;> (repeat' ((first | apply ga_dec | apply ga_ndec | apply cd_dec | apply cd_ndec | apply gd_dec | apply gd_ndec | apply ga_split | apply cd_split | apply gd_split) <;> intro hc <;> try (simp -implicitDefEqProofs (maxSteps := 2000000) (disch := first | omega | (simp only [vz_push, vz_set, drop_size]; done) | (simp only [vz_push, vz_set, drop_size]; omega)) only [push_cast, seval, f26N0, f26N1, f26N2, hc, hg, hw])))
    refine VC_pure (turner_ok hk how) ?_
    (try (simp -implicitDefEqProofs (maxSteps := 2000000) (disch := first | omega | (simp only [vz_push, vz_set, drop_size]; done) | (simp only [vz_push, vz_set, drop_size]; omega)) only [push_cast, seval, f26N0, f26N1, f26N2, hg, hw])) <;> (repeat' ((first | apply ga_dec | apply ga_ndec | apply cd_dec | apply cd_ndec | apply gd_dec | apply gd_ndec | apply ga_split | apply cd_split | apply gd_split) <;> intro hc <;> try (simp -implicitDefEqProofs (maxSteps := 2000000) (disch := first | omega | (simp only [vz_push, vz_set, drop_size]; done) | (simp only [vz_push, vz_set, drop_size]; omega)) only [push_cast, seval, f26N0, f26N1, f26N2, hc, hg, hw])))
    have hgA : s1.get (s.size + 1) = some (.own ⟨[.c (.slice none 0 0), .c (.int .i64 0)], 24, 0, 0, false⟩) := by rw [hg _ (by omega)]; (simp -implicitDefEqProofs (disch := first | omega | (simp only [vz_push, vz_set, drop_size]; done) | (simp only [vz_push, vz_set, drop_size]; omega)) only [drop_ne, gp_ne, gp_eq, gs_ne, gs_eq])
    refine VW_iter (fun m ρ s' => ∃ j : Nat, m = hi - lo - j ∧ j ≤ hi - lo ∧ ρ.get 6 = .ptr ⟨s.size + 1, 0, none⟩ ∧ ρ.get 8 = .c (.int .i64 hi) ∧ ρ.get 9 = .sl ⟨b, 0, none⟩ x.1.length (capO x.1.length) ∧ ρ.get 10 = turnF how ∧ ρ.get 11 = .c (.int .i64 ((lo + j : Nat) : Int)) ∧ (s'.get b = some (.own ⟨((caseL how x.1 lo j).map eS).flatten, 39, 0, 0, false⟩)) ∧ (KeepA s s') ∧ (s'.get (s.size + 1) = some (.own ⟨[.c (.slice none 0 0), .c (.int .i64 0)], 24, 0, 0, false⟩)) ∧ (s1.size ≤ s'.size)) (hi - lo) ⟨0, rfl, Nat.zero_le _, by (((try simp -implicitDefEqProofs only [eA_tmp, eA_const, AEnv.get_set, ofA_get, List.getD_cons_zero, List.getD_cons_succ, ↓reduceIte, reduceCtorEq, Nat.reduceEqDiff]); try (first | (with_reducible assumption) | (with_reducible rfl) | (congr 2 <;> omega) | rfl))), by (((try simp -implicitDefEqProofs only [eA_tmp, eA_const, AEnv.get_set, ofA_get, List.getD_cons_zero, List.getD_cons_succ, ↓reduceIte, reduceCtorEq, Nat.reduceEqDiff]); try (first | (with_reducible assumption) | (with_reducible rfl) | (congr 2 <;> omega) | rfl))), by (((try simp -implicitDefEqProofs only [eA_tmp, eA_const, AEnv.get_set, ofA_get, List.getD_cons_zero, List.getD_cons_succ, ↓reduceIte, reduceCtorEq, Nat.reduceEqDiff]); try (first | (with_reducible assumption) | (with_reducible rfl) | (congr 2 <;> omega) | rfl))), by (((try simp -implicitDefEqProofs only [eA_tmp, eA_const, AEnv.get_set, ofA_get, List.getD_cons_zero, List.getD_cons_succ, ↓reduceIte, reduceCtorEq, Nat.reduceEqDiff]); try (first | (with_reducible assumption) | (with_reducible rfl) | (congr 2 <;> omega) | rfl))), by (((try simp -implicitDefEqProofs only [eA_tmp, eA_const, AEnv.get_set, ofA_get, List.getD_cons_zero, List.getD_cons_succ, ↓reduceIte, reduceCtorEq, Nat.reduceEqDiff]); try (first | (with_reducible assumption) | (with_reducible rfl) | (congr 2 <;> omega) | rfl))), hgb, hks, hgA, Nat.le_refl _⟩ ?_
    rintro m ρ s' ⟨j, rfl, hj, g6, g8, g9, g10, g11, j1, j2, j3, j4⟩
    simp -implicitDefEqProofs (maxSteps := 2000000) (disch := first | omega | (simp only [vz_push, vz_set, drop_size]; done) | (simp only [vz_push, vz_set, drop_size]; omega)) only [push_cast, seval, f26N0, f26N1, f26N2, g11, g8]
    refine cd_dec (fun hc => ?_) (fun hc => ?_)
    · obtain ⟨p, hp⟩ : ∃ p, (caseL how x.1 lo j)[lo + j]? = some p := ⟨_, List.getElem?_eq_getElem (by rw [caseL_len]; omega)⟩
      have r0 := flat_at0 (f := eS) (sz := 2) (fun _ => rfl) hp 1 (by omega)
      have ho := fun w => flat_set0 (f := eS) (sz := 2) (fun _ => rfl) hp (q := (w, p.2)) (.c (.int .i64 w)) rfl (by decide)
      have hlen := flat_len_eS (caseL how x.1 lo j)
      have hb2 : b < s'.size := VS.lt_of_get j1
      rw [caseL_len] at hlen
      have hstep : ∀ w, (firstAt (caseL how x.1 lo j) (lo + j) = w) → ((caseL how x.1 lo j).set (lo + j) (turnI how p.1 w, p.2)) = caseL how x.1 lo (j + 1) := fun w hw => by
        subst hw
        show _ = caseStep how (caseL how x.1 lo j) (lo + j)
        unfold caseStep
        rw [hp]
      by_cases h0 : lo + j = 0
      · have h1 := hstep true (by rw [h0]; rfl)
        obtain rfl : lo = 0 := by omega
        obtain rfl : j = 0 := by omega
        simp only [Nat.add_zero, Nat.zero_mul, List.drop_zero, List.take_zero, List.nil_append, Nat.zero_add] at r0 ho h1 hp
        (try (simp -implicitDefEqProofs (maxSteps := 2000000) (disch := first | omega | (simp only [vz_push, vz_set, drop_size]; done) | (simp only [vz_push, vz_set, drop_size]; omega)) only [push_cast, seval, f26N0, f26N1, f26N2, g6, g8, g9, g10, g11, j1, hlen, r0, eS])) <;> (repeat' ((first | apply ga_dec | apply ga_ndec | apply cd_dec | apply cd_ndec | apply gd_dec | apply gd_ndec | apply ga_split | apply cd_split | apply gd_split) <;> intro hc <;> try (simp -implicitDefEqProofs (maxSteps := 2000000) (disch := first | omega | (simp only [vz_push, vz_set, drop_size]; done) | (simp only [vz_push, vz_set, drop_size]; omega)) only [push_cast, seval, f26N0, f26N1, f26N2, hc, g6, g8, g9, g10, g11, j1, hlen, r0, eS])))
        refine VC_pure (turn3_ok hk _ _ _) ?_
        (try (simp -implicitDefEqProofs (maxSteps := 2000000) (disch := first | omega | (simp only [vz_push, vz_set, drop_size]; done) | (simp only [vz_push, vz_set, drop_size]; omega)) only [push_cast, seval, f26N0, f26N1, f26N2, g6, g8, g9, g10, g11, j1, hlen, r0, eS, ho, h1])) <;> (repeat' ((first | apply ga_dec | apply ga_ndec | apply cd_dec | apply cd_ndec | apply gd_dec | apply gd_ndec | apply ga_split | apply cd_split | apply gd_split) <;> intro hc <;> try (simp -implicitDefEqProofs (maxSteps := 2000000) (disch := first | omega | (simp only [vz_push, vz_set, drop_size]; done) | (simp only [vz_push, vz_set, drop_size]; omega)) only [push_cast, seval, f26N0, f26N1, f26N2, hc, g6, g8, g9, g10, g11, j1, hlen, r0, eS, ho, h1])))
        refine ⟨_ - (0 + 1), by omega, 0 + 1, rfl, by omega, by congr 2, ?_, by (repeat first | assumption | exact KeepA.refl _ | apply KeepA.push | refine KeepA.set ?_ (by first | omega | (simp only [vz_push, vz_set, drop_size]; omega) | (have h9 := KeepA.size_le (by assumption); (try simp only [vz_push, vz_set, drop_size] at *); omega)) _ | refine KeepA.drop ?_ (by first | omega | (simp only [vz_push, vz_set, drop_size]; omega) | (have h9 := KeepA.size_le (by assumption); (try simp only [vz_push, vz_set, drop_size] at *); omega)) | refine KeepA.trans ?_ (by assumption)), j3, j4⟩
        rw [← h1, ← ho]
      · obtain ⟨q, hq⟩ : ∃ q, (caseL how x.1 lo j)[lo + j - 1]? = some q := ⟨_, List.getElem?_eq_getElem (by rw [caseL_len]; omega)⟩
        have r1 := flat_at0 (f := eS) (sz := 2) (fun _ => rfl) hq 1 (by omega)
        have h1 := hstep (decide (kd q.1 ≠ 1)) (by
          obtain ⟨n, hn⟩ : ∃ n, lo + j = n + 1 := ⟨lo + j - 1, by omega⟩
          rw [hn] at hq ⊢
          simp only [firstAt]
          rw [show n + 1 - 1 = n by omega] at hq
          rw [hq])
        (try (simp -implicitDefEqProofs (maxSteps := 2000000) (disch := first | omega | (simp only [vz_push, vz_set, drop_size]; done) | (simp only [vz_push, vz_set, drop_size]; omega)) only [push_cast, seval, f26N0, f26N1, f26N2, g6, g8, g9, g10, g11, j1, hlen, r0, r1, eS])) <;> (repeat' ((first | apply ga_dec | apply ga_ndec | apply cd_dec | apply cd_ndec | apply gd_dec | apply gd_ndec | apply ga_split | apply cd_split | apply gd_split) <;> intro hc <;> try (simp -implicitDefEqProofs (maxSteps := 2000000) (disch := first | omega | (simp only [vz_push, vz_set, drop_size]; done) | (simp only [vz_push, vz_set, drop_size]; omega)) only [push_cast, seval, f26N0, f26N1, f26N2, hc, g6, g8, g9, g10, g11, j1, hlen, r0, r1, eS])))
        all_goals first | (exfalso; omega) | skip
        refine VC_pure (kind_ok hk _) ?_
        (try (simp -implicitDefEqProofs (maxSteps := 2000000) (disch := first | omega | (simp only [vz_push, vz_set, drop_size]; done) | (simp only [vz_push, vz_set, drop_size]; omega)) only [push_cast, seval, f26N0, f26N1, f26N2, g6, g8, g9, g10, g11, j1, hlen, r0, r1, eS])) <;> (repeat' ((first | apply ga_dec | apply ga_ndec | apply cd_dec | apply cd_ndec | apply gd_dec | apply gd_ndec | apply ga_split | apply cd_split | apply gd_split) <;> intro hc <;> try (simp -implicitDefEqProofs (maxSteps := 2000000) (disch := first | omega | (simp only [vz_push, vz_set, drop_size]; done) | (simp only [vz_push, vz_set, drop_size]; omega)) only [push_cast, seval, f26N0, f26N1, f26N2, hc, g6, g8, g9, g10, g11, j1, hlen, r0, r1, eS])))
        refine VC_pure (turn3_ok hk _ _ _) ?_
        simp only [decide_not] at h1
        (try (simp -implicitDefEqProofs (maxSteps := 2000000) (disch := first | omega | (simp only [vz_push, vz_set, drop_size]; done) | (simp only [vz_push, vz_set, drop_size]; omega)) only [push_cast, seval, f26N0, f26N1, f26N2, g6, g8, g9, g10, g11, j1, hlen, r0, eS, ho, h1])) <;> (repeat' ((first | apply ga_dec | apply ga_ndec | apply cd_dec | apply cd_ndec | apply gd_dec | apply gd_ndec | apply ga_split | apply cd_split | apply gd_split) <;> intro hc <;> try (simp -implicitDefEqProofs (maxSteps := 2000000) (disch := first | omega | (simp only [vz_push, vz_set, drop_size]; done) | (simp only [vz_push, vz_set, drop_size]; omega)) only [push_cast, seval, f26N0, f26N1, f26N2, hc, g6, g8, g9, g10, g11, j1, hlen, r0, eS, ho, h1])))
        refine ⟨_ - (j + 1), by omega, j + 1, rfl, by omega, by congr 2, rfl, by (repeat first | assumption | exact KeepA.refl _ | apply KeepA.push | refine KeepA.set ?_ (by first | omega | (simp only [vz_push, vz_set, drop_size]; omega) | (have h9 := KeepA.size_le (by assumption); (try simp only [vz_push, vz_set, drop_size] at *); omega)) _ | refine KeepA.drop ?_ (by first | omega | (simp only [vz_push, vz_set, drop_size]; omega) | (have h9 := KeepA.size_le (by assumption); (try simp only [vz_push, vz_set, drop_size] at *); omega)) | refine KeepA.trans ?_ (by assumption)), j3, j4⟩
    · have h1 : j = hi - lo := by omega
      subst h1
      (try (simp -implicitDefEqProofs (maxSteps := 2000000) (disch := first | omega | (simp only [vz_push, vz_set, drop_size]; done) | (simp only [vz_push, vz_set, drop_size]; omega)) only [push_cast, seval, f26N0, f26N1, f26N2, g6, g8, g9, g10, g11, j1, j3])) <;> (repeat' ((first | apply ga_dec | apply ga_ndec | apply cd_dec | apply cd_ndec | apply gd_dec | apply gd_ndec | apply ga_split | apply cd_split | apply gd_split) <;> intro hc <;> try (simp -implicitDefEqProofs (maxSteps := 2000000) (disch := first | omega | (simp only [vz_push, vz_set, drop_size]; done) | (simp only [vz_push, vz_set, drop_size]; omega)) only [push_cast, seval, f26N0, f26N1, f26N2, hc, g6, g8, g9, g10, g11, j1, j3])))
      refine out_line (by (repeat first | assumption | exact KeepA.refl _ | apply KeepA.push | refine KeepA.set ?_ (by first | omega | (simp only [vz_push, vz_set, drop_size]; omega) | (have h9 := KeepA.size_le (by assumption); (try simp only [vz_push, vz_set, drop_size] at *); omega)) _ | refine KeepA.drop ?_ (by first | omega | (simp only [vz_push, vz_set, drop_size]; omega) | (have h9 := KeepA.size_le (by assumption); (try simp only [vz_push, vz_set, drop_size] at *); omega)) | refine KeepA.trans ?_ (by assumption))) (se_LS (e := 39) ?_ (by omega) (caseL_len _ _ _ _).symm) rfl
      rw [gs_ne (by omega)]
      exact j1
end
end Go.Proofs.YtkmjgpoenljnaaaDoor.Ab
