/- Histories: entries that are deleted. -/
import Derived.Test.YtndedkpcfjnecaaH1
namespace Go.Proofs.Ytndedkpcfjnecaa.Ab
open Go.Proofs
set_option maxRecDepth 100000
set_option maxHeartbeats 4000000
set_option linter.unusedSimpArgs false
set_option linter.unusedVariables false
set_option linter.unnecessarySimpa false
set_option linter.unusedSectionVars false
def eE (l : List (Int × Int)) : List AV := [LS l]
theorem len_eE (l : List (Int × Int)) : (eE l).length = 1 := rfl
theorem one_eE (l : List (Int × Int)) : (eE l).all oneA = true := rfl
theorem firm_eE (l : List (Int × Int)) : FirmR (eE l) := FirmR.cons (Firm.LS _) FirmR.nil
theorem flatE (l : List (List (Int × Int))) : (l.map eE).flatten = l.map LS := by
  induction l with
  | nil => rfl
  | cons a l ih => rw [List.map_cons, List.flatten_cons, ih]; rfl
/-- It has other values. -/
def nD (l e : List (Int × Int)) : Bool := !decide (e.map Prod.fst = l.map Prod.fst)
theorem boxA {X : Prg} {vs : VS} {b e : Nat} {v w : AV} (hg : vs.get b = some (.own ⟨[v], e, 0, 0, false⟩)) (h : Se X All Non vs v w) : Se X All Non vs (.ptr ⟨b, 0, none⟩) (.fptr [w] 0) :=
  Se.ptr (r := ⟨[v], e, 0, 0, false⟩) hg trivial rfl rfl (Ses.cons h Ses.nil)
def begF (l : List (Int × Int)) : AV := .fn 111 [] [.fptr [LS l] 0]
/-- The boxes that what deletes looks into. -/
def Bxs (s : VS) (a3 a5 : Nat) (l : List (Int × Int)) : Prop := s.get a3 = some (.own ⟨[LS l], 22, 0, 0, false⟩) ∧ ∃ t, s.get a5 = some (.own ⟨[begF l], t, 0, 0, false⟩)
section
variable {k : Nat → List Value → Option Value} (hk : ∀ f, f ≠ 69 → Open k f)
include hk
theorem delCall {s : VS} {a3 a5 : Nat} {l : List (Int × Int)} (h : Bxs s a3 a5 l) (hn : l.length < 1000000) (e : List (Int × Int)) {K : AV → VS → Prop} (hK : K (.c (.bool (!nD l e))) s) : VC (XK k) 87 [LS e, .ptr ⟨a3, 0, none⟩, .ptr ⟨a5, 0, none⟩] s K := by
  obtain ⟨h3, t, h5⟩ := h
  refine VC_lent (addDel_ok hk l e hn) (Ses.cons (Se.firm (Firm.LS _)) (Ses.cons (boxA h3 (Se.firm (Firm.LS _))) (Ses.cons (boxA h5 (Se.firm ?_)) Ses.nil))) (Rigid.c _) ?_
  · exact Firm.fn all_nil (fun v hv => by rw [List.mem_singleton] at hv; subst hv; exact Firm.fptr (FirmR.cons (Firm.LS _) FirmR.nil))
  · unfold nD at hK
    rw [Bool.not_not] at hK
    exact hK
theorem indexF_ok {s0 s : VS} {v : AV} {E : List (List (Int × Int))} (h : Gt eE s0 s 22 1 v E) (hE : E.length < 1000000) {a3 a5 : Nat} {l : List (Int × Int)} (hb : Bxs s a3 a5 l) (hn : l.length < 1000000) {K : AV → VS → Prop}
    (hK1 : E.all (nD l) = true → K (.c (.int .i64 (-1))) s) (hK2 : ∀ i e, E[i]? = some e → nD l e = false → (E.take i).all (nD l) = true → K (.c (.int .i64 i)) s) : VC (XK k) 112 [v, .fn 87 [] [.ptr ⟨a3, 0, none⟩, .ptr ⟨a5, 0, none⟩]] s K := by
  refine f112_in (hk _ (by decide)) ?_
  cases h with
  | nil =>
    (try (simp -implicitDefEqProofs (maxSteps := 2000000) (disch := first | omega | (simp only [vz_push, vz_set, drop_size]; first | done | omega)) only [push_cast, seval, f112N0, f112N1, f112N2])) <;> (repeat' ((first | apply ga_dec | apply ga_ndec | apply cd_dec | apply cd_ndec | apply gd_dec | apply gd_ndec | apply ga_split | apply cd_split | apply gd_split) <;> intro hc <;> try (simp -implicitDefEqProofs (maxSteps := 2000000) (disch := first | omega | (simp only [vz_push, vz_set, drop_size]; first | done | omega)) only [push_cast, seval, f112N0, f112N1, f112N2, hc])))
    refine VW_iter (fun m ρ s' => ∃ i : Nat, m = 0 - i ∧ i ≤ 0 ∧ ρ.get 8 = .c (.int .i64 i) ∧ ρ.get 7 = .c (.int .i64 0) ∧ (s' = s)) (0) ⟨0, rfl, Nat.zero_le _, by (((try simp -implicitDefEqProofs only [eA_tmp, eA_const, AEnv.get_set, ofA_get, List.getD_cons_zero, List.getD_cons_succ, ↓reduceIte, reduceCtorEq, Nat.reduceEqDiff]); try (first | (with_reducible assumption) | (with_reducible rfl) | (congr 2 <;> omega) | rfl))), by (((try simp -implicitDefEqProofs only [eA_tmp, eA_const, AEnv.get_set, ofA_get, List.getD_cons_zero, List.getD_cons_succ, ↓reduceIte, reduceCtorEq, Nat.reduceEqDiff]); try (first | (with_reducible assumption) | (with_reducible rfl) | (congr 2 <;> omega) | rfl))), rfl⟩ ?_
    rintro m ρ s' ⟨i, rfl, hi, g8, g7, j1⟩
    subst j1
    (try (simp -implicitDefEqProofs (maxSteps := 2000000) (disch := first | omega | (simp only [vz_push, vz_set, drop_size]; first | done | omega)) only [push_cast, seval, f112N0, f112N1, f112N2, g8, g7])) <;> (repeat' ((first | apply ga_dec | apply ga_ndec | apply cd_dec | apply cd_ndec | apply gd_dec | apply gd_ndec | apply ga_split | apply cd_split | apply gd_split) <;> intro hc <;> try (simp -implicitDefEqProofs (maxSteps := 2000000) (disch := first | omega | (simp only [vz_push, vz_set, drop_size]; first | done | omega)) only [push_cast, seval, f112N0, f112N1, f112N2, hc, g8, g7])))
    all_goals (try (exfalso; omega))
    exact hK1 rfl
  | row b sp n N E zs h1 h2 h3 h4 h5 =>
    subst h3
    rw [flatE] at h1 h4
    have z1 := VS.lt_of_get h1
    have hcl : (E.map LS ++ zs).length = N := by rw [h4, Nat.mul_one]
    (try (simp -implicitDefEqProofs (maxSteps := 2000000) (disch := first | omega | (simp only [vz_push, vz_set, drop_size]; first | done | omega)) only [push_cast, seval, f112N0, f112N1, f112N2])) <;> (repeat' ((first | apply ga_dec | apply ga_ndec | apply cd_dec | apply cd_ndec | apply gd_dec | apply gd_ndec | apply ga_split | apply cd_split | apply gd_split) <;> intro hc <;> try (simp -implicitDefEqProofs (maxSteps := 2000000) (disch := first | omega | (simp only [vz_push, vz_set, drop_size]; first | done | omega)) only [push_cast, seval, f112N0, f112N1, f112N2, hc])))
    refine VW_iter (fun m ρ s' => ∃ i : Nat, m = E.length - i ∧ i ≤ E.length ∧ ρ.get 0 = .sl ⟨b, 0, sp⟩ E.length (capO N) ∧ ρ.get 1 = .fn 87 [] [.ptr ⟨a3, 0, none⟩, .ptr ⟨a5, 0, none⟩] ∧ ρ.get 7 = .c (.int .i64 E.length) ∧ ρ.get 8 = .c (.int .i64 i) ∧ (s' = s) ∧ ((E.take i).all (nD l) = true)) (E.length) ⟨0, rfl, Nat.zero_le _, by (((try simp -implicitDefEqProofs only [eA_tmp, eA_const, AEnv.get_set, ofA_get, List.getD_cons_zero, List.getD_cons_succ, ↓reduceIte, reduceCtorEq, Nat.reduceEqDiff]); try (first | (with_reducible assumption) | (with_reducible rfl) | (congr 2 <;> omega) | rfl))), by (((try simp -implicitDefEqProofs only [eA_tmp, eA_const, AEnv.get_set, ofA_get, List.getD_cons_zero, List.getD_cons_succ, ↓reduceIte, reduceCtorEq, Nat.reduceEqDiff]); try (first | (with_reducible assumption) | (with_reducible rfl) | (congr 2 <;> omega) | rfl))), by (((try simp -implicitDefEqProofs only [eA_tmp, eA_const, AEnv.get_set, ofA_get, List.getD_cons_zero, List.getD_cons_succ, ↓reduceIte, reduceCtorEq, Nat.reduceEqDiff]); try (first | (with_reducible assumption) | (with_reducible rfl) | (congr 2 <;> omega) | rfl))), by (((try simp -implicitDefEqProofs only [eA_tmp, eA_const, AEnv.get_set, ofA_get, List.getD_cons_zero, List.getD_cons_succ, ↓reduceIte, reduceCtorEq, Nat.reduceEqDiff]); try (first | (with_reducible assumption) | (with_reducible rfl) | (congr 2 <;> omega) | rfl))), rfl, rfl⟩ ?_
    rintro m ρ s' ⟨i, rfl, hi, g0, g1, g7, g8, j1, j2⟩
    subst j1
    by_cases c1 : i < E.length
    · have he := List.getElem?_eq_getElem c1
      generalize E[i] = e at he
      have hrd : List.take 1 (List.drop i (E.map LS ++ zs)) = [LS e] := by
        rw [List.drop_append_of_le_length (by rw [List.length_map]; omega), ← List.map_drop, drop_at he]
        rfl
      (try (simp -implicitDefEqProofs (maxSteps := 2000000) (disch := first | omega | (simp only [vz_push, vz_set, drop_size]; first | done | omega)) only [push_cast, seval, f112N0, f112N1, f112N2, g0, g1, g7, g8, h1, z1, hcl, hrd])) <;> (repeat' ((first | apply ga_dec | apply ga_ndec | apply cd_dec | apply cd_ndec | apply gd_dec | apply gd_ndec | apply ga_split | apply cd_split | apply gd_split) <;> intro hc <;> try (simp -implicitDefEqProofs (maxSteps := 2000000) (disch := first | omega | (simp only [vz_push, vz_set, drop_size]; first | done | omega)) only [push_cast, seval, f112N0, f112N1, f112N2, hc, g0, g1, g7, g8, h1, z1, hcl, hrd])))
      all_goals (try (exfalso; omega))
      refine delCall hk hb hn e ?_
      cases hd : nD l e
      · (try (simp -implicitDefEqProofs (maxSteps := 2000000) (disch := first | omega | (simp only [vz_push, vz_set, drop_size]; first | done | omega)) only [push_cast, seval, f112N0, f112N1, f112N2, g0, g1, g7, g8])) <;> (repeat' ((first | apply ga_dec | apply ga_ndec | apply cd_dec | apply cd_ndec | apply gd_dec | apply gd_ndec | apply ga_split | apply cd_split | apply gd_split) <;> intro hc <;> try (simp -implicitDefEqProofs (maxSteps := 2000000) (disch := first | omega | (simp only [vz_push, vz_set, drop_size]; first | done | omega)) only [push_cast, seval, f112N0, f112N1, f112N2, hc, g0, g1, g7, g8])))
        exact hK2 i e he hd j2
      · (try (simp -implicitDefEqProofs (maxSteps := 2000000) (disch := first | omega | (simp only [vz_push, vz_set, drop_size]; first | done | omega)) only [push_cast, seval, f112N0, f112N1, f112N2, g0, g1, g7, g8])) <;> (repeat' ((first | apply ga_dec | apply ga_ndec | apply cd_dec | apply cd_ndec | apply gd_dec | apply gd_ndec | apply ga_split | apply cd_split | apply gd_split) <;> intro hc <;> try (simp -implicitDefEqProofs (maxSteps := 2000000) (disch := first | omega | (simp only [vz_push, vz_set, drop_size]; first | done | omega)) only [push_cast, seval, f112N0, f112N1, f112N2, hc, g0, g1, g7, g8])))
        refine ⟨_ - (i + 1), by omega, i + 1, rfl, by omega, congrArg (fun z => AV.c (.int .i64 z)) (by omega), ?_⟩
        rw [take_snoc he, List.all_append, j2]
        simp [hd]
    · have hi2 : i = E.length := by omega
      subst hi2
      rw [List.take_length] at j2
      (try (simp -implicitDefEqProofs (maxSteps := 2000000) (disch := first | omega | (simp only [vz_push, vz_set, drop_size]; first | done | omega)) only [push_cast, seval, f112N0, f112N1, f112N2, g0, g1, g7, g8])) <;> (repeat' ((first | apply ga_dec | apply ga_ndec | apply cd_dec | apply cd_ndec | apply gd_dec | apply gd_ndec | apply ga_split | apply cd_split | apply gd_split) <;> intro hc <;> try (simp -implicitDefEqProofs (maxSteps := 2000000) (disch := first | omega | (simp only [vz_push, vz_set, drop_size]; first | done | omega)) only [push_cast, seval, f112N0, f112N1, f112N2, hc, g0, g1, g7, g8])))
      all_goals (try (exfalso; omega))
      exact hK1 j2
/-- Entries ahead of which some are kept, junk between. -/
def midE (K : List (List (Int × Int))) (J : List AV) (R : List (List (Int × Int))) (zs : List AV) : List AV := K.map LS ++ (J ++ (R.map LS ++ zs))
omit hk in
theorem midE_len (K : List (List (Int × Int))) (J : List AV) (R : List (List (Int × Int))) (zs : List AV) : (midE K J R zs).length = K.length + (J.length + (R.length + zs.length)) := by
  unfold midE
  simp
omit hk in
theorem mid_shift {K : List (List (Int × Int))} {J : List AV} {E : List (List (Int × Int))} {j : Nat} {x : List (Int × Int)} {zs : List AV} (hx : E[j]? = some x) : midE K J (E.drop j) zs = midE K (J ++ [LS x]) (E.drop (j + 1)) zs := by
  unfold midE
  rw [drop_at hx]
  simp
omit hk in
theorem mid_write (K : List (List (Int × Int))) (J : List AV) (R : List (List (Int × Int))) (zs : List AV) (x : List (Int × Int)) (hJ : 0 < J.length) : List.take K.length (midE K J R zs) ++ [LS x] ++ List.drop (K.length + 1) (midE K J R zs) = midE (K ++ [x]) (J.drop 1) R zs := by
  cases J with
  | nil => simp at hJ
  | cons a J =>
    unfold midE
    rw [List.take_left' (by simp), List.drop_append, List.drop_eq_nil_of_le (by simp)]
    simp
omit hk in
theorem nilcells (n : Nat) : (reps [Value.slice none 0 0] n).map cv = List.replicate n (AV.c (.slice none 0 0)) := by
  induction n with
  | zero => rfl
  | succ n ih => rw [List.replicate_succ, ← ih]; rfl
theorem deleteF_ok {s0 s : VS} {v : AV} {E : List (List (Int × Int))} (h : Gt eE s0 s 22 1 v E) (hE : E.length < 1000000) {a3 a5 : Nat} {l : List (Int × Int)} (hb : Bxs s a3 a5 l) (hn : l.length < 1000000) (hv3 : blkOf v ≠ some a3) (hv5 : blkOf v ≠ some a5) {K : AV → VS → Prop}
    (hK : ∀ v' s', Gt eE s0 s' 22 1 v' (E.filter (nD l)) → But s s' v → (blkOf v' = blkOf v) → K v' s') : VC (XK k) 86 [v, .fn 87 [] [.ptr ⟨a3, 0, none⟩, .ptr ⟨a5, 0, none⟩]] s K := by
  refine f86_in (hk _ (by decide)) ?_
  (try (simp -implicitDefEqProofs (maxSteps := 2000000) (disch := first | omega | (simp only [vz_push, vz_set, drop_size]; first | done | omega)) only [push_cast, seval, f86N0, f86N1, f86N2, f86N3])) <;> (repeat' ((first | apply ga_dec | apply ga_ndec | apply cd_dec | apply cd_ndec | apply gd_dec | apply gd_ndec | apply ga_split | apply cd_split | apply gd_split) <;> intro hc <;> try (simp -implicitDefEqProofs (maxSteps := 2000000) (disch := first | omega | (simp only [vz_push, vz_set, drop_size]; first | done | omega)) only [push_cast, seval, f86N0, f86N1, f86N2, f86N3, hc])))
  have hh := h
  refine indexF_ok hk h hE hb hn (fun hall => ?_) (fun i e he hd hall => ?_)
  · (try (simp -implicitDefEqProofs (maxSteps := 2000000) (disch := first | omega | (simp only [vz_push, vz_set, drop_size]; first | done | omega)) only [push_cast, seval, f86N0, f86N1, f86N2, f86N3])) <;> (repeat' ((first | apply ga_dec | apply ga_ndec | apply cd_dec | apply cd_ndec | apply gd_dec | apply gd_ndec | apply ga_split | apply cd_split | apply gd_split) <;> intro hc <;> try (simp -implicitDefEqProofs (maxSteps := 2000000) (disch := first | omega | (simp only [vz_push, vz_set, drop_size]; first | done | omega)) only [push_cast, seval, f86N0, f86N1, f86N2, f86N3, hc])))
    refine hK _ _ ?_ ⟨Nat.le_refl _, fun c _ _ => ⟨rfl, rfl⟩⟩ rfl
    rw [List.filter_eq_self.2 (List.all_eq_true.1 hall)]
    exact hh
  · cases h with
    | nil => simp at he
    | row b sp n N E zs h1 h2 h3 h4 h5 =>
      subst h3
      rw [flatE] at h1 h4
      have hi := (List.getElem?_eq_some_iff.1 he).1
      have hb3 : b ≠ a3 := fun e => hv3 (by rw [e]; rfl)
      have hb5 : b ≠ a5 := fun e => hv5 (by rw [e]; rfl)
      have hne : ((i : Int) = -1) = False := eq_false (by omega)
      (try (simp -implicitDefEqProofs (maxSteps := 2000000) (disch := first | omega | (simp only [vz_push, vz_set, drop_size]; first | done | omega)) only [push_cast, seval, f86N0, f86N1, f86N2, f86N3, hne])) <;> (repeat' ((first | apply ga_dec | apply ga_ndec | apply cd_dec | apply cd_ndec | apply gd_dec | apply gd_ndec | apply ga_split | apply cd_split | apply gd_split) <;> intro hc <;> try (simp -implicitDefEqProofs (maxSteps := 2000000) (disch := first | omega | (simp only [vz_push, vz_set, drop_size]; first | done | omega)) only [push_cast, seval, f86N0, f86N1, f86N2, f86N3, hc, hne])))
      all_goals (try (exfalso; omega))
      have hsz := VS.lt_of_get h1
      refine VW_iter (fun m ρ s' => ∃ (j : Nat) (KK : List (List (Int × Int))) (J : List AV), m = E.length - j ∧ j ≤ E.length ∧ 0 < J.length ∧ KK.length + J.length = j ∧ KK = (E.take j).filter (nD l) ∧ ρ.get 0 = .sl ⟨b, 0, sp⟩ E.length (capO N) ∧ ρ.get 1 = .fn 87 [] [.ptr ⟨a3, 0, none⟩, .ptr ⟨a5, 0, none⟩] ∧ ρ.get 5 = .c (.int .i64 KK.length) ∧ ρ.get 6 = .c (.int .i64 j) ∧
        s'.get b = some (.own ⟨midE KK J (E.drop j) zs, 22, sp.getD 0, 0, false⟩) ∧ s'.size = s.size ∧ ∀ c, c ≠ b → s'.get c = s.get c ∧ s'.ver c = s.ver c) (E.length - (i + 1))
        ⟨i + 1, E.take i, [LS e], rfl, by omega, by simp, by simp; omega, ?_, by (((try simp -implicitDefEqProofs only [eA_tmp, eA_const, AEnv.get_set, ofA_get, List.getD_cons_zero, List.getD_cons_succ, ↓reduceIte, reduceCtorEq, Nat.reduceEqDiff]); try (first | (with_reducible assumption) | (with_reducible rfl) | (congr 2 <;> omega) | rfl))), by (((try simp -implicitDefEqProofs only [eA_tmp, eA_const, AEnv.get_set, ofA_get, List.getD_cons_zero, List.getD_cons_succ, ↓reduceIte, reduceCtorEq, Nat.reduceEqDiff]); try (first | (with_reducible assumption) | (with_reducible rfl) | (congr 2 <;> omega) | rfl))), by simp [Nat.min_eq_left (Nat.le_of_lt hi)]; (((try simp -implicitDefEqProofs only [eA_tmp, eA_const, AEnv.get_set, ofA_get, List.getD_cons_zero, List.getD_cons_succ, ↓reduceIte, reduceCtorEq, Nat.reduceEqDiff]); try (first | (with_reducible assumption) | (with_reducible rfl) | (congr 2 <;> omega) | rfl))), by (((try simp -implicitDefEqProofs only [eA_tmp, eA_const, AEnv.get_set, ofA_get, List.getD_cons_zero, List.getD_cons_succ, ↓reduceIte, reduceCtorEq, Nat.reduceEqDiff]); try (first | (with_reducible assumption) | (with_reducible rfl) | (congr 2 <;> omega) | rfl))), ?_, rfl, fun _ _ => ⟨rfl, rfl⟩⟩ ?_
      · rw [take_snoc he, List.filter_append, List.filter_eq_self.2 (List.all_eq_true.1 hall)]
        simp [hd]
      · rw [h1]
        unfold midE
        rw [show E.map LS = (E.take i).map LS ++ (LS e :: (E.drop (i + 1)).map LS) by rw [← List.map_cons, ← drop_at he, ← List.map_append, List.take_append_drop]]
        simp
      · rintro m ρ s' ⟨j, KK, J, rfl, hj, hJ, hKJ, hKK, g0, g1, g5, g6, q1, q2, q3⟩
        by_cases c1 : j < E.length
        · have hx := List.getElem?_eq_getElem c1
          generalize E[j] = x at hx
          have hcl : (midE KK J (E.drop j) zs).length = N := by
            rw [midE_len, List.length_drop]
            rw [List.length_append, List.length_map] at h4
            omega
          have hrd : List.take 1 (List.drop j (midE KK J (E.drop j) zs)) = [LS x] := by
            unfold midE
            rw [← List.append_assoc, List.drop_left' (by simp; omega), drop_at hx]
            rfl
          (try (simp -implicitDefEqProofs (maxSteps := 2000000) (disch := first | omega | (simp only [vz_push, vz_set, drop_size]; first | done | omega)) only [push_cast, seval, f86N0, f86N1, f86N2, f86N3, g0, g1, g5, g6, q1, hcl, hrd])) <;> (repeat' ((first | apply ga_dec | apply ga_ndec | apply cd_dec | apply cd_ndec | apply gd_dec | apply gd_ndec | apply ga_split | apply cd_split | apply gd_split) <;> intro hc <;> try (simp -implicitDefEqProofs (maxSteps := 2000000) (disch := first | omega | (simp only [vz_push, vz_set, drop_size]; first | done | omega)) only [push_cast, seval, f86N0, f86N1, f86N2, f86N3, hc, g0, g1, g5, g6, q1, hcl, hrd])))
          all_goals (try (exfalso; omega))
          refine delCall hk (s := s') (a3 := a3) (a5 := a5) ⟨by rw [(q3 a3 (Ne.symm hb3)).1]; exact hb.1, by rw [(q3 a5 (Ne.symm hb5)).1]; exact hb.2⟩ hn x ?_
          have hsz2 := VS.lt_of_get q1
          cases hd2 : nD l x
          · (try (simp -implicitDefEqProofs (maxSteps := 2000000) (disch := first | omega | (simp only [vz_push, vz_set, drop_size]; first | done | omega)) only [push_cast, seval, f86N0, f86N1, f86N2, f86N3, g0, g1, g5, g6, q1, hcl])) <;> (repeat' ((first | apply ga_dec | apply ga_ndec | apply cd_dec | apply cd_ndec | apply gd_dec | apply gd_ndec | apply ga_split | apply cd_split | apply gd_split) <;> intro hc <;> try (simp -implicitDefEqProofs (maxSteps := 2000000) (disch := first | omega | (simp only [vz_push, vz_set, drop_size]; first | done | omega)) only [push_cast, seval, f86N0, f86N1, f86N2, f86N3, hc, g0, g1, g5, g6, q1, hcl])))
            refine ⟨_ - (j + 1), by omega, j + 1, KK, J ++ [LS x], rfl, by omega, by simp, by simp; omega, ?_, rfl, congrArg (fun z => AV.c (.int .i64 z)) (by omega), by rw [mid_shift hx], q2, q3⟩
            rw [take_snoc hx, List.filter_append, hKK]
            simp [hd2]
          · have hmw := mid_write KK J (E.drop j) zs x hJ
            (try (simp -implicitDefEqProofs (maxSteps := 2000000) (disch := first | omega | (simp only [vz_push, vz_set, drop_size]; first | done | omega)) only [push_cast, seval, f86N0, f86N1, f86N2, f86N3, g0, g1, g5, g6, q1, hcl, hmw])) <;> (repeat' ((first | apply ga_dec | apply ga_ndec | apply cd_dec | apply cd_ndec | apply gd_dec | apply gd_ndec | apply ga_split | apply cd_split | apply gd_split) <;> intro hc <;> try (simp -implicitDefEqProofs (maxSteps := 2000000) (disch := first | omega | (simp only [vz_push, vz_set, drop_size]; first | done | omega)) only [push_cast, seval, f86N0, f86N1, f86N2, f86N3, hc, g0, g1, g5, g6, q1, hcl, hmw])))
            all_goals (try (exfalso; omega))
            refine ⟨_ - (j + 1), by omega, j + 1, KK ++ [x], J.drop 1 ++ [LS x], rfl, by omega, by simp, by simp; omega, ?_, congrArg (fun z => AV.c (.int .i64 z)) (by simp), congrArg (fun z => AV.c (.int .i64 z)) (by omega), by rw [mid_shift hx], by simpa using q2, fun c hc => ?_⟩
            · rw [take_snoc hx, List.filter_append, hKK]
              simp [hd2]
            · exact ⟨by rw [gs_ne hc]; exact (q3 c hc).1, by rw [vs_ver hc]; exact (q3 c hc).2⟩
        · have hj2 : j = E.length := by omega
          subst hj2
          have hcl : (midE KK J (E.drop E.length) zs).length = N := by
            rw [midE_len, List.length_drop]
            rw [List.length_append, List.length_map] at h4
            omega
          have hne2 : (E.length - KK.length = 0) = False := eq_false (by omega)
          have hrl : (reps [Value.slice none 0 0] (E.length - KK.length)).length = E.length - KK.length := by rw [reps_len]; simp
          have hone : ((reps [Value.slice none 0 0] (E.length - KK.length)).map cv).all oneA = true := by
            rw [List.all_eq_true]
            intro x hx
            rw [nilcells, List.mem_replicate] at hx
            rw [hx.2]
            rfl
          have hsz2 := VS.lt_of_get q1
          (try (simp -implicitDefEqProofs (maxSteps := 2000000) (disch := first | omega | (simp only [vz_push, vz_set, drop_size]; first | done | omega)) only [push_cast, seval, f86N0, f86N1, f86N2, f86N3, g0, g1, g5, g6, q1, hcl, hne2, hrl, hone])) <;> (repeat' ((first | apply ga_dec | apply ga_ndec | apply cd_dec | apply cd_ndec | apply gd_dec | apply gd_ndec | apply ga_split | apply cd_split | apply gd_split) <;> intro hc <;> try (simp -implicitDefEqProofs (maxSteps := 2000000) (disch := first | omega | (simp only [vz_push, vz_set, drop_size]; first | done | omega)) only [push_cast, seval, f86N0, f86N1, f86N2, f86N3, hc, g0, g1, g5, g6, q1, hcl, hne2, hrl, hone])))
          all_goals (try (exfalso; omega))
          have hfi : E.filter (nD l) = KK := by rw [hKK, List.take_length]
          refine hK _ _ (.row b sp KK.length N (E.filter (nD l)) ((reps [Value.slice none 0 0] (E.length - KK.length)).map cv ++ zs) ?_ h2 (by rw [hfi]) ?_ (by omega)) ⟨by rw [vz_set]; omega, fun c hc hcb => ?_⟩ rfl
          · rw [flatE, hfi, gs_eq rfl hsz2]
            congr 3
            unfold midE
            rw [List.take_left' (by simp), List.drop_append, List.drop_eq_nil_of_le (by simp), List.drop_of_length_le (Nat.le_refl E.length)]
            simp only [List.map_nil, List.nil_append, List.length_map]
            rw [List.drop_append, List.drop_eq_nil_of_le (by omega), show KK.length + (E.length - KK.length) - KK.length - J.length = 0 by omega]
            simp
          · rw [flatE, hfi, List.length_append, List.length_append, List.length_map, List.length_map, hrl]
            rw [List.length_append, List.length_map] at h4
            omega
          · have hne3 : c ≠ b := by rintro rfl; exact hcb rfl
            exact ⟨by rw [gs_ne hne3]; exact (q3 c hne3).1, by rw [vs_ver hne3]; exact (q3 c hne3).2⟩
end
end Go.Proofs.Ytndedkpcfjnecaa.Ab
