/- Trails: the document's lines that were. -/
import Derived.Test.YtndedkpcfjnecaaO4
namespace Go.Proofs.Ytndedkpcfjnecaa.Ab
open Go.Proofs
set_option maxRecDepth 100000
set_option maxHeartbeats 4000000
set_option linter.unusedSimpArgs false
set_option linter.unusedVariables false
set_option linter.unnecessarySimpa false
set_option linter.unusedSectionVars false
@[reducible] def LNs (l : List Ln) : AV := .lst 2 (l.map eL)
theorem len_eL (x : Ln) : (eL x).length = 2 := rfl
theorem one_eL (x : Ln) : (eL x).all oneA = true := rfl
theorem Firm.LNs (l : List Ln) : Firm (LNs l) := Firm.lstm firm_eL
def eTT (now : Ln) (p l : List Ln) : List AV := [LS now.1, .c (.int .i64 now.2), LNs p, LNs l]
theorem firm_eTT (now : Ln) (p l : List Ln) : FirmR (eTT now p l) := FirmR.cons (Firm.LS _) (FirmR.cons (Firm.c _) (FirmR.cons (Firm.LNs _) (FirmR.cons (Firm.LNs _) FirmR.nil)))
def capL (p : List Ln) (most : Int) : List Ln := if most < p.length then p.drop 1 else p
section
variable {k : Nat → List Value → Option Value} (hk : ∀ f, f ≠ 69 → Open k f)
include hk
theorem lines_ok (l : List Ln) (x : Ln) (hl : l.length < 100000) : PC (XK k) 109 [LNs l, .agg (eL x)] (LNs (l ++ [x])) := by
  refine PC_of fun s => ?_
  refine f109_in (hk _ (by decide)) ?_
  obtain ⟨xs, xa⟩ := x
  have hfl := flat_lenf len_eL l
  (try (simp -implicitDefEqProofs (maxSteps := 2000000) (disch := first | omega | (simp only [vz_push, vz_set, drop_size]; first | done | omega)) only [push_cast, seval, f109N0, eL])) <;> (repeat' ((first | apply ga_dec | apply ga_ndec | apply cd_dec | apply cd_ndec | apply gd_dec | apply gd_ndec | apply ga_split | apply cd_split | apply gd_split) <;> intro hc <;> try (simp -implicitDefEqProofs (maxSteps := 2000000) (disch := first | omega | (simp only [vz_push, vz_set, drop_size]; first | done | omega)) only [push_cast, seval, f109N0, hc, eL])))
  refine Gr.step (s0 := s) (m := l.length) (.lit (s.size + 1) 0 [] _ (gp_eq (by simp only [vz_push])) (by omega) rfl) (by (repeat first | assumption | exact KeepA.refl _ | apply KeepA.push | refine KeepA.set ?_ (by first | omega | (simp only [vz_push, vz_set, drop_size]; omega) | (have h9 := KeepA.size_le (by assumption); (try simp only [vz_push, vz_set, drop_size] at *); omega)) _ | refine KeepA.drop ?_ (by first | omega | (simp only [vz_push, vz_set, drop_size]; omega) | (have h9 := KeepA.size_le (by assumption); (try simp only [vz_push, vz_set, drop_size] at *); omega)) | refine KeepA.trans ?_ (by assumption))) rfl (by rw [hfl]) (ones_map one_eL) (room_ok (by constructor <;> (try dsimp only) <;> omega)) ?_
  intro v2 s2 k1 k2 k3
  have n1 : s2.get s.size = some (.own ⟨[LS xs, .c (.int .i64 xa)], 65, 0, 0, false⟩) := by
    rw [(k2.2 s.size (by simp only [vz_push]; omega) (by simp [blkOf])).1]
    (simp -implicitDefEqProofs (disch := first | omega | (simp only [vz_push, vz_set, drop_size]; first | done | omega)) only [drop_ne, gp_ne, gp_eq, gs_ne, gs_eq])
  have n2 := (k2.2 s.size (by simp only [vz_push]; omega) (by simp [blkOf])).2
  simp only [vp_ver] at n2
  have z1 := VS.lt_of_get n1
  (try (simp -implicitDefEqProofs (maxSteps := 2000000) (disch := first | omega | (simp only [vz_push, vz_set, drop_size]; first | done | omega)) only [push_cast, seval, f109N0, n1, n2, z1])) <;> (repeat' ((first | apply ga_dec | apply ga_ndec | apply cd_dec | apply cd_ndec | apply gd_dec | apply gd_ndec | apply ga_split | apply cd_split | apply gd_split) <;> intro hc <;> try (simp -implicitDefEqProofs (maxSteps := 2000000) (disch := first | omega | (simp only [vz_push, vz_set, drop_size]; first | done | omega)) only [push_cast, seval, f109N0, hc, n1, n2, z1])))
  refine Gr.step (m := 1) (k1.push _) (k3.push _) rfl rfl rfl (room_ok (by constructor <;> (try dsimp only) <;> omega)) ?_
  intro v3 s3 m1 m2 m3
  (try (simp -implicitDefEqProofs (maxSteps := 2000000) (disch := first | omega | (simp only [vz_push, vz_set, drop_size]; first | done | omega)) only [push_cast, seval, f109N0])) <;> (repeat' ((first | apply ga_dec | apply ga_ndec | apply cd_dec | apply cd_ndec | apply gd_dec | apply gd_ndec | apply ga_split | apply cd_split | apply gd_split) <;> intro hc <;> try (simp -implicitDefEqProofs (maxSteps := 2000000) (disch := first | omega | (simp only [vz_push, vz_set, drop_size]; first | done | omega)) only [push_cast, seval, f109N0, hc])))
  rw [Nat.zero_add, List.nil_append] at m1
  have e : (l.map eL).flatten ++ [LS xs, AV.c (.int .i64 xa)] = ((l ++ [(xs, xa)]).map eL).flatten := by simp [eL]
  rw [e] at m1
  exact ⟨by cases m1 <;> rfl, m1.outm m3 len_eL firm_eL (by decide : 0 < 2)⟩
theorem rset_ok (now x : Ln) (p l : List Ln) (join : Bool) (most : Int) (hx : x.1.length < 100000) (hp : p.length < 10000) : PC (XK k) 73 [.agg (eTT now p l), .agg (eL x), .c (.bool join), .c (.int .i64 most)]
    (.agg (if x.1 = now.1 then eTT x p l else eTT x (capL (if join = true ∧ p ≠ [] then p else p ++ [now]) most) [])) := by
  refine PC_of fun s => ?_
  refine f73_in (hk _ (by decide)) ?_
  have w := rsame_ok hk x.1 now.1 (by omega)
  have w2 := lines_ok hk p now (by omega)
  simp only [eL] at w2
  by_cases he : x.1 = now.1
  · rw [decide_eq_true he] at w
    rw [if_pos he]
    repeat' (first | ((first | apply ga_dec | apply ga_ndec | apply cd_dec | apply cd_ndec | apply gd_dec | apply gd_ndec | apply ga_split | apply cd_split | apply gd_split) <;> intro hc <;> (try (simp -implicitDefEqProofs (maxSteps := 2000000) (disch := first | omega | (simp only [vz_push, vz_set, drop_size]; first | done | omega)) only [push_cast, seval, f73N0, f73N1, f73N2, hc, eTT, eL])) <;> (try (exfalso; omega))) | refine VC_pure (w) ?_ | (simp -implicitDefEqProofs (maxSteps := 2000000) (disch := first | omega | (simp only [vz_push, vz_set, drop_size]; first | done | omega)) only [push_cast, seval, f73N0, f73N1, f73N2, eTT, eL]))
    exact ⟨by (repeat first | assumption | exact KeepA.refl _ | apply KeepA.push | refine KeepA.set ?_ (by first | omega | (simp only [vz_push, vz_set, drop_size]; omega) | (have h9 := KeepA.size_le (by assumption); (try simp only [vz_push, vz_set, drop_size] at *); omega)) _ | refine KeepA.drop ?_ (by first | omega | (simp only [vz_push, vz_set, drop_size]; omega) | (have h9 := KeepA.size_le (by assumption); (try simp only [vz_push, vz_set, drop_size] at *); omega)) | refine KeepA.trans ?_ (by assumption)), Se.agg (Ses.firm (firm_eTT x p l))⟩
  · rw [decide_eq_false he] at w
    rw [if_neg he]
    have leaf : ∀ (q : List Ln) (s' : VS), KeepA s s' → outP (XK k) s (.agg (eTT x q [])) (.agg [LS x.1, .c (.int .i64 x.2), LNs q, .c (.slice none 0 0)]) s' := fun q s' hk' =>
      ⟨hk', Se.agg (Ses.cons (Se.firm (Firm.LS _)) (Ses.cons (Se.c _) (Ses.cons (Se.firm (Firm.LNs _)) (Ses.cons (Se.nil 2) Ses.nil))))⟩
    have hql : (p ++ [now]).length = p.length + 1 := by simp
    by_cases hj : join = true ∧ p ≠ []
    · rw [if_pos hj]
      obtain ⟨rfl, hne⟩ := hj
      have hpp : 0 < p.length := List.length_pos_iff.2 hne
      have htd : List.take (p.length - 1) (List.drop 1 p) = List.drop 1 p := List.take_of_length_le (by rw [List.length_drop]; omega)
      by_cases hm : most < (p.length : Int)
      · have hc : capL p most = p.drop 1 := by unfold capL; rw [if_pos hm]
        rw [hc]
        repeat' (first | ((first | apply ga_dec | apply ga_ndec | apply cd_dec | apply cd_ndec | apply gd_dec | apply gd_ndec | apply ga_split | apply cd_split | apply gd_split) <;> intro hc <;> (try (simp -implicitDefEqProofs (maxSteps := 2000000) (disch := first | omega | (simp only [vz_push, vz_set, drop_size]; first | done | omega)) only [push_cast, seval, f73N0, f73N1, f73N2, hc, eTT, eL, hm, htd])) <;> (try (exfalso; omega))) | refine VC_pure (w) ?_ | (simp -implicitDefEqProofs (maxSteps := 2000000) (disch := first | omega | (simp only [vz_push, vz_set, drop_size]; first | done | omega)) only [push_cast, seval, f73N0, f73N1, f73N2, eTT, eL, hm, htd]))
        exact leaf _ _ (by (repeat first | assumption | exact KeepA.refl _ | apply KeepA.push | refine KeepA.set ?_ (by first | omega | (simp only [vz_push, vz_set, drop_size]; omega) | (have h9 := KeepA.size_le (by assumption); (try simp only [vz_push, vz_set, drop_size] at *); omega)) _ | refine KeepA.drop ?_ (by first | omega | (simp only [vz_push, vz_set, drop_size]; omega) | (have h9 := KeepA.size_le (by assumption); (try simp only [vz_push, vz_set, drop_size] at *); omega)) | refine KeepA.trans ?_ (by assumption)))
      · have hc : capL p most = p := by unfold capL; rw [if_neg hm]
        rw [hc]
        repeat' (first | ((first | apply ga_dec | apply ga_ndec | apply cd_dec | apply cd_ndec | apply gd_dec | apply gd_ndec | apply ga_split | apply cd_split | apply gd_split) <;> intro hc <;> (try (simp -implicitDefEqProofs (maxSteps := 2000000) (disch := first | omega | (simp only [vz_push, vz_set, drop_size]; first | done | omega)) only [push_cast, seval, f73N0, f73N1, f73N2, hc, eTT, eL, hm])) <;> (try (exfalso; omega))) | refine VC_pure (w) ?_ | (simp -implicitDefEqProofs (maxSteps := 2000000) (disch := first | omega | (simp only [vz_push, vz_set, drop_size]; first | done | omega)) only [push_cast, seval, f73N0, f73N1, f73N2, eTT, eL, hm]))
        exact leaf _ _ (by (repeat first | assumption | exact KeepA.refl _ | apply KeepA.push | refine KeepA.set ?_ (by first | omega | (simp only [vz_push, vz_set, drop_size]; omega) | (have h9 := KeepA.size_le (by assumption); (try simp only [vz_push, vz_set, drop_size] at *); omega)) _ | refine KeepA.drop ?_ (by first | omega | (simp only [vz_push, vz_set, drop_size]; omega) | (have h9 := KeepA.size_le (by assumption); (try simp only [vz_push, vz_set, drop_size] at *); omega)) | refine KeepA.trans ?_ (by assumption)))
    · rw [if_neg hj]
      generalize p ++ [now] = q at *
      have htd : List.take (q.length - 1) (List.drop 1 q) = List.drop 1 q := List.take_of_length_le (by rw [List.length_drop]; omega)
      by_cases hm : most < (q.length : Int)
      · have hc : capL q most = q.drop 1 := by unfold capL; rw [if_pos hm]
        rw [hc]
        cases join
        · repeat' (first | ((first | apply ga_dec | apply ga_ndec | apply cd_dec | apply cd_ndec | apply gd_dec | apply gd_ndec | apply ga_split | apply cd_split | apply gd_split) <;> intro hc <;> (try (simp -implicitDefEqProofs (maxSteps := 2000000) (disch := first | omega | (simp only [vz_push, vz_set, drop_size]; first | done | omega)) only [push_cast, seval, f73N0, f73N1, f73N2, hc, eTT, eL, hm, htd])) <;> (try (exfalso; omega))) | refine VC_pure (w) ?_ | refine VC_pure (w2) ?_ | (simp -implicitDefEqProofs (maxSteps := 2000000) (disch := first | omega | (simp only [vz_push, vz_set, drop_size]; first | done | omega)) only [push_cast, seval, f73N0, f73N1, f73N2, eTT, eL, hm, htd]))
          exact leaf _ _ (by (repeat first | assumption | exact KeepA.refl _ | apply KeepA.push | refine KeepA.set ?_ (by first | omega | (simp only [vz_push, vz_set, drop_size]; omega) | (have h9 := KeepA.size_le (by assumption); (try simp only [vz_push, vz_set, drop_size] at *); omega)) _ | refine KeepA.drop ?_ (by first | omega | (simp only [vz_push, vz_set, drop_size]; omega) | (have h9 := KeepA.size_le (by assumption); (try simp only [vz_push, vz_set, drop_size] at *); omega)) | refine KeepA.trans ?_ (by assumption)))
        · have hp0 : p = [] := by
            cases p with
            | nil => rfl
            | cons y p => exact absurd ⟨rfl, by simp⟩ hj
          subst hp0
          repeat' (first | ((first | apply ga_dec | apply ga_ndec | apply cd_dec | apply cd_ndec | apply gd_dec | apply gd_ndec | apply ga_split | apply cd_split | apply gd_split) <;> intro hc <;> (try (simp -implicitDefEqProofs (maxSteps := 2000000) (disch := first | omega | (simp only [vz_push, vz_set, drop_size]; first | done | omega)) only [push_cast, seval, f73N0, f73N1, f73N2, hc, eTT, eL, hm, htd])) <;> (try (exfalso; omega))) | refine VC_pure (w) ?_ | refine VC_pure (w2) ?_ | (simp -implicitDefEqProofs (maxSteps := 2000000) (disch := first | omega | (simp only [vz_push, vz_set, drop_size]; first | done | omega)) only [push_cast, seval, f73N0, f73N1, f73N2, eTT, eL, hm, htd]))
          exact leaf _ _ (by (repeat first | assumption | exact KeepA.refl _ | apply KeepA.push | refine KeepA.set ?_ (by first | omega | (simp only [vz_push, vz_set, drop_size]; omega) | (have h9 := KeepA.size_le (by assumption); (try simp only [vz_push, vz_set, drop_size] at *); omega)) _ | refine KeepA.drop ?_ (by first | omega | (simp only [vz_push, vz_set, drop_size]; omega) | (have h9 := KeepA.size_le (by assumption); (try simp only [vz_push, vz_set, drop_size] at *); omega)) | refine KeepA.trans ?_ (by assumption)))
      · have hc : capL q most = q := by unfold capL; rw [if_neg hm]
        rw [hc]
        cases join
        · repeat' (first | ((first | apply ga_dec | apply ga_ndec | apply cd_dec | apply cd_ndec | apply gd_dec | apply gd_ndec | apply ga_split | apply cd_split | apply gd_split) <;> intro hc <;> (try (simp -implicitDefEqProofs (maxSteps := 2000000) (disch := first | omega | (simp only [vz_push, vz_set, drop_size]; first | done | omega)) only [push_cast, seval, f73N0, f73N1, f73N2, hc, eTT, eL, hm])) <;> (try (exfalso; omega))) | refine VC_pure (w) ?_ | refine VC_pure (w2) ?_ | (simp -implicitDefEqProofs (maxSteps := 2000000) (disch := first | omega | (simp only [vz_push, vz_set, drop_size]; first | done | omega)) only [push_cast, seval, f73N0, f73N1, f73N2, eTT, eL, hm]))
          exact leaf _ _ (by (repeat first | assumption | exact KeepA.refl _ | apply KeepA.push | refine KeepA.set ?_ (by first | omega | (simp only [vz_push, vz_set, drop_size]; omega) | (have h9 := KeepA.size_le (by assumption); (try simp only [vz_push, vz_set, drop_size] at *); omega)) _ | refine KeepA.drop ?_ (by first | omega | (simp only [vz_push, vz_set, drop_size]; omega) | (have h9 := KeepA.size_le (by assumption); (try simp only [vz_push, vz_set, drop_size] at *); omega)) | refine KeepA.trans ?_ (by assumption)))
        · have hp0 : p = [] := by
            cases p with
            | nil => rfl
            | cons y p => exact absurd ⟨rfl, by simp⟩ hj
          subst hp0
          repeat' (first | ((first | apply ga_dec | apply ga_ndec | apply cd_dec | apply cd_ndec | apply gd_dec | apply gd_ndec | apply ga_split | apply cd_split | apply gd_split) <;> intro hc <;> (try (simp -implicitDefEqProofs (maxSteps := 2000000) (disch := first | omega | (simp only [vz_push, vz_set, drop_size]; first | done | omega)) only [push_cast, seval, f73N0, f73N1, f73N2, hc, eTT, eL, hm])) <;> (try (exfalso; omega))) | refine VC_pure (w) ?_ | refine VC_pure (w2) ?_ | (simp -implicitDefEqProofs (maxSteps := 2000000) (disch := first | omega | (simp only [vz_push, vz_set, drop_size]; first | done | omega)) only [push_cast, seval, f73N0, f73N1, f73N2, eTT, eL, hm]))
          exact leaf _ _ (by (repeat first | assumption | exact KeepA.refl _ | apply KeepA.push | refine KeepA.set ?_ (by first | omega | (simp only [vz_push, vz_set, drop_size]; omega) | (have h9 := KeepA.size_le (by assumption); (try simp only [vz_push, vz_set, drop_size] at *); omega)) _ | refine KeepA.drop ?_ (by first | omega | (simp only [vz_push, vz_set, drop_size]; omega) | (have h9 := KeepA.size_le (by assumption); (try simp only [vz_push, vz_set, drop_size] at *); omega)) | refine KeepA.trans ?_ (by assumption)))
theorem rback0_ok (now : Ln) (l : List Ln) : PC (XK k) 74 [.agg (eTT now [] l)] (.tup [.agg (eTT now [] l), .c (.bool false)]) := by
  refine PC_of fun s => ?_
  refine f74_in (hk _ (by decide)) ?_
  (try (simp -implicitDefEqProofs (maxSteps := 2000000) (disch := first | omega | (simp only [vz_push, vz_set, drop_size]; first | done | omega)) only [push_cast, seval, f74N0, f74N1, eTT])) <;> (repeat' ((first | apply ga_dec | apply ga_ndec | apply cd_dec | apply cd_ndec | apply gd_dec | apply gd_ndec | apply ga_split | apply cd_split | apply gd_split) <;> intro hc <;> try (simp -implicitDefEqProofs (maxSteps := 2000000) (disch := first | omega | (simp only [vz_push, vz_set, drop_size]; first | done | omega)) only [push_cast, seval, f74N0, f74N1, hc, eTT])))
  exact out_firm (by (repeat first | assumption | exact KeepA.refl _ | apply KeepA.push | refine KeepA.set ?_ (by first | omega | (simp only [vz_push, vz_set, drop_size]; omega) | (have h9 := KeepA.size_le (by assumption); (try simp only [vz_push, vz_set, drop_size] at *); omega)) _ | refine KeepA.drop ?_ (by first | omega | (simp only [vz_push, vz_set, drop_size]; omega) | (have h9 := KeepA.size_le (by assumption); (try simp only [vz_push, vz_set, drop_size] at *); omega)) | refine KeepA.trans ?_ (by assumption))) rfl (Firm.tup (all_cons (Firm.agg (firm_eTT now [] l)) (all_cons (Firm.c _) all_nil)))
theorem rforth0_ok (now : Ln) (p : List Ln) : PC (XK k) 75 [.agg (eTT now p [])] (.tup [.agg (eTT now p []), .c (.bool false)]) := by
  refine PC_of fun s => ?_
  refine f75_in (hk _ (by decide)) ?_
  (try (simp -implicitDefEqProofs (maxSteps := 2000000) (disch := first | omega | (simp only [vz_push, vz_set, drop_size]; first | done | omega)) only [push_cast, seval, f75N0, f75N1, eTT])) <;> (repeat' ((first | apply ga_dec | apply ga_ndec | apply cd_dec | apply cd_ndec | apply gd_dec | apply gd_ndec | apply ga_split | apply cd_split | apply gd_split) <;> intro hc <;> try (simp -implicitDefEqProofs (maxSteps := 2000000) (disch := first | omega | (simp only [vz_push, vz_set, drop_size]; first | done | omega)) only [push_cast, seval, f75N0, f75N1, hc, eTT])))
  exact out_firm (by (repeat first | assumption | exact KeepA.refl _ | apply KeepA.push | refine KeepA.set ?_ (by first | omega | (simp only [vz_push, vz_set, drop_size]; omega) | (have h9 := KeepA.size_le (by assumption); (try simp only [vz_push, vz_set, drop_size] at *); omega)) _ | refine KeepA.drop ?_ (by first | omega | (simp only [vz_push, vz_set, drop_size]; omega) | (have h9 := KeepA.size_le (by assumption); (try simp only [vz_push, vz_set, drop_size] at *); omega)) | refine KeepA.trans ?_ (by assumption))) rfl (Firm.tup (all_cons (Firm.agg (firm_eTT now p [])) (all_cons (Firm.c _) all_nil)))
theorem rback_ok (now y : Ln) (q l : List Ln) (hl : l.length < 10000) (hq : q.length < 10000) : PC (XK k) 74 [.agg (eTT now (q ++ [y]) l)] (.tup [.agg (eTT y q (l ++ [now])), .c (.bool true)]) := by
  refine PC_of fun s => ?_
  refine f74_in (hk _ (by decide)) ?_
  have hg : (q ++ [y])[q.length]? = some y := by simp
  have ht : List.take q.length (q ++ [y]) = q := List.take_left' rfl
  have hql : (q ++ [y]).length = q.length + 1 := by simp
  have w := lines_ok hk l now (by omega)
  simp only [eL] at w
  have hq1 : (q.length : Int) + 1 - 1 = q.length := by omega
  generalize q ++ [y] = p at *
  repeat' (first | ((first | apply ga_dec | apply ga_ndec | apply cd_dec | apply cd_ndec | apply gd_dec | apply gd_ndec | apply ga_split | apply cd_split | apply gd_split) <;> intro hc <;> (try (simp -implicitDefEqProofs (maxSteps := 2000000) (disch := first | omega | (simp only [vz_push, vz_set, drop_size]; first | done | omega)) only [push_cast, seval, f74N0, f74N1, hc, eTT, eL, hg, ht, hql, hq1])) <;> (try (exfalso; omega))) | refine VC_pure (w) ?_ | (simp -implicitDefEqProofs (maxSteps := 2000000) (disch := first | omega | (simp only [vz_push, vz_set, drop_size]; first | done | omega)) only [push_cast, seval, f74N0, f74N1, eTT, eL, hg, ht, hql, hq1]))
  exact out_firm (by (repeat first | assumption | exact KeepA.refl _ | apply KeepA.push | refine KeepA.set ?_ (by first | omega | (simp only [vz_push, vz_set, drop_size]; omega) | (have h9 := KeepA.size_le (by assumption); (try simp only [vz_push, vz_set, drop_size] at *); omega)) _ | refine KeepA.drop ?_ (by first | omega | (simp only [vz_push, vz_set, drop_size]; omega) | (have h9 := KeepA.size_le (by assumption); (try simp only [vz_push, vz_set, drop_size] at *); omega)) | refine KeepA.trans ?_ (by assumption))) rfl (Firm.tup (all_cons (Firm.agg (firm_eTT y q (l ++ [now]))) (all_cons (Firm.c _) all_nil)))
theorem rforth_ok (now y : Ln) (p q : List Ln) (hl : p.length < 10000) (hq : q.length < 10000) : PC (XK k) 75 [.agg (eTT now p (q ++ [y]))] (.tup [.agg (eTT y (p ++ [now]) q), .c (.bool true)]) := by
  refine PC_of fun s => ?_
  refine f75_in (hk _ (by decide)) ?_
  have hg : (q ++ [y])[q.length]? = some y := by simp
  have ht : List.take q.length (q ++ [y]) = q := List.take_left' rfl
  have hql : (q ++ [y]).length = q.length + 1 := by simp
  have w := lines_ok hk p now (by omega)
  simp only [eL] at w
  have hq1 : (q.length : Int) + 1 - 1 = q.length := by omega
  generalize q ++ [y] = l at *
  repeat' (first | ((first | apply ga_dec | apply ga_ndec | apply cd_dec | apply cd_ndec | apply gd_dec | apply gd_ndec | apply ga_split | apply cd_split | apply gd_split) <;> intro hc <;> (try (simp -implicitDefEqProofs (maxSteps := 2000000) (disch := first | omega | (simp only [vz_push, vz_set, drop_size]; first | done | omega)) only [push_cast, seval, f75N0, f75N1, hc, eTT, eL, hg, ht, hql, hq1])) <;> (try (exfalso; omega))) | refine VC_pure (w) ?_ | (simp -implicitDefEqProofs (maxSteps := 2000000) (disch := first | omega | (simp only [vz_push, vz_set, drop_size]; first | done | omega)) only [push_cast, seval, f75N0, f75N1, eTT, eL, hg, ht, hql, hq1]))
  exact out_firm (by (repeat first | assumption | exact KeepA.refl _ | apply KeepA.push | refine KeepA.set ?_ (by first | omega | (simp only [vz_push, vz_set, drop_size]; omega) | (have h9 := KeepA.size_le (by assumption); (try simp only [vz_push, vz_set, drop_size] at *); omega)) _ | refine KeepA.drop ?_ (by first | omega | (simp only [vz_push, vz_set, drop_size]; omega) | (have h9 := KeepA.size_le (by assumption); (try simp only [vz_push, vz_set, drop_size] at *); omega)) | refine KeepA.trans ?_ (by assumption))) rfl (Firm.tup (all_cons (Firm.agg (firm_eTT y (p ++ [now]) q)) (all_cons (Firm.c _) all_nil)))
end
end Go.Proofs.Ytndedkpcfjnecaa.Ab
