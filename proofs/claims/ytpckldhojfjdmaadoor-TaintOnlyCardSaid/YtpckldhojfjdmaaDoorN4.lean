/- Cells of signs. -/
import Derived.Test.YtpckldhojfjdmaaDoorN3
namespace Go.Proofs.YtpckldhojfjdmaaDoor.Ab
open Go.Proofs
set_option maxRecDepth 100000
set_option maxHeartbeats 4000000
set_option linter.unusedSimpArgs false
set_option linter.unusedVariables false
set_option linter.unnecessarySimpa false
set_option linter.unusedSectionVars false
theorem firm_eC (c : Cl) : FirmR (eC c) := FirmR.cons (Firm.c _) (FirmR.cons (Firm.c _) (FirmR.cons (Firm.c _) (FirmR.cons (Firm.c _) (FirmR.cons (Firm.c _) FirmR.nil))))
theorem Firm.LC (l : List Cl) : Firm (LC l) := Firm.lstm firm_eC
theorem len_eC (c : Cl) : (eC c).length = 5 := rfl
theorem one_eC (c : Cl) : (eC c).all oneA = true := rfl
/-- The cells of a text that is told, from a place on. -/
def tellC (a own v : Int) : Nat → List UInt8 → List Cl
  | _, [] => []
  | i, c :: l => ((c.toNat : Int), a, own, v, (i : Int)) :: tellC a own v (i + 1) l
theorem tellC_snoc (a own v : Int) (c : UInt8) : ∀ (l : List UInt8) (i : Nat), tellC a own v i (l ++ [c]) = tellC a own v i l ++ [((c.toNat : Int), a, own, v, ((i + l.length : Nat) : Int))]
  | [], i => by simp [tellC]
  | d :: l, i => by
    rw [List.cons_append, tellC, tellC_snoc a own v c l (i + 1), tellC, List.cons_append, List.length_cons]
    rw [show i + 1 + l.length = i + (l.length + 1) by omega]
theorem tellC_len (a own v : Int) : ∀ (l : List UInt8) (i : Nat), (tellC a own v i l).length = l.length
  | [], i => rfl
  | d :: l, i => by rw [tellC, List.length_cons, tellC_len a own v l, List.length_cons]
/-- A sign's cells. -/
def cellsS (p : Int × Int) (own : Int) : List Cl :=
  if dangerV p.1 then tellC (looksS p) own p.1 0 (textV p.1)
  else if classOf p.1 = 0 then [] else (p.1, looksS p, own, p.1, 0) :: (if classOf p.1 = 2 then [(-1, looksS p, own, p.1, 1)] else [])
section
variable {k : Nat → List Value → Option Value} (hk : ∀ f, f ≠ 95 → Open k f)
include hk
@[reducible] def mkF (p : Int × Int) (own : Int) : AV := .fn 87 [] [.fptr [.c (.int .i64 (looksS p))] 0, .fptr [.c (.int .i64 own)] 0, .fptr (eS p) 0]
theorem maker1_ok (p : Int × Int) (own v i : Int) : PC (XK k) 87 [.c (.int .i64 v), .c (.int .i64 i), .fptr [.c (.int .i64 (looksS p))] 0, .fptr [.c (.int .i64 own)] 0, .fptr (eS p) 0] (.agg (eC (v, looksS p, own, p.1, i))) := by
  refine PC_of fun s => ?_
  refine f87_in (hk _ (by decide)) ?_
  (try (simp -implicitDefEqProofs (maxSteps := 2000000) (disch := first | omega | (simp only [vz_push, vz_set, drop_size]; done) | (simp only [vz_push, vz_set, drop_size]; omega)) only [push_cast, seval, f87N0, eS])) <;> (repeat' ((first | apply ga_dec | apply ga_ndec | apply cd_dec | apply cd_ndec | apply gd_dec | apply gd_ndec | apply ga_split | apply cd_split | apply gd_split) <;> intro hc <;> try (simp -implicitDefEqProofs (maxSteps := 2000000) (disch := first | omega | (simp only [vz_push, vz_set, drop_size]; done) | (simp only [vz_push, vz_set, drop_size]; omega)) only [push_cast, seval, f87N0, hc, eS])))
  exact out_firm (by (repeat first | assumption | exact KeepA.refl _ | apply KeepA.push | refine KeepA.set ?_ (by first | omega | (simp only [vz_push, vz_set, drop_size]; omega) | (have h9 := KeepA.size_le (by assumption); (try simp only [vz_push, vz_set, drop_size] at *); omega)) _ | refine KeepA.drop ?_ (by first | omega | (simp only [vz_push, vz_set, drop_size]; omega) | (have h9 := KeepA.size_le (by assumption); (try simp only [vz_push, vz_set, drop_size] at *); omega)) | refine KeepA.trans ?_ (by assumption))) rfl (Firm.agg (firm_eC _))
theorem maker_ok (p : Int × Int) (own : Int) : PC (XK k) 59 [.agg (eS p), .c (.int .i64 own)] (mkF p own) := by
  refine PC_of fun s => ?_
  refine f59_in (hk _ (by decide)) ?_
  repeat' (first | ((first | apply ga_dec | apply ga_ndec | apply cd_dec | apply cd_ndec | apply gd_dec | apply gd_ndec | apply ga_split | apply cd_split | apply gd_split) <;> intro hc <;> (try (simp -implicitDefEqProofs (maxSteps := 2000000) (disch := first | omega | (simp only [vz_push, vz_set, drop_size]; done) | (simp only [vz_push, vz_set, drop_size]; omega)) only [push_cast, seval, f59N0, hc, eS])) <;> (try (exfalso; omega))) | refine VC_pure (looks_ok hk p) ?_ | (simp -implicitDefEqProofs (maxSteps := 2000000) (disch := first | omega | (simp only [vz_push, vz_set, drop_size]; done) | (simp only [vz_push, vz_set, drop_size]; omega)) only [push_cast, seval, f59N0, eS]))
  exact ⟨by (repeat first | assumption | exact KeepA.refl _ | apply KeepA.push | refine KeepA.set ?_ (by first | omega | (simp only [vz_push, vz_set, drop_size]; omega) | (have h9 := KeepA.size_le (by assumption); (try simp only [vz_push, vz_set, drop_size] at *); omega)) _ | refine KeepA.drop ?_ (by first | omega | (simp only [vz_push, vz_set, drop_size]; omega) | (have h9 := KeepA.size_le (by assumption); (try simp only [vz_push, vz_set, drop_size] at *); omega)) | refine KeepA.trans ?_ (by assumption)), Se.fn Ses.nil (Ses.cons (Se.box (b := s.size + 1 + 1) (e := 3) (by (simp -implicitDefEqProofs (disch := first | omega | (simp only [vz_push, vz_set, drop_size]; done) | (simp only [vz_push, vz_set, drop_size]; omega)) only [drop_ne, gp_ne, gp_eq, gs_ne, gs_eq])) (by omega) (Se.c _)) (Ses.cons (Se.box (b := s.size + 1) (e := 3) (by (simp -implicitDefEqProofs (disch := first | omega | (simp only [vz_push, vz_set, drop_size]; done) | (simp only [vz_push, vz_set, drop_size]; omega)) only [drop_ne, gp_ne, gp_eq, gs_ne, gs_eq])) (by omega) (Se.c _))
    (Ses.cons (Se.ptr (a := ⟨s.size, 0, none⟩) (r := ⟨eS p, 28, 0, 0, false⟩) (by show _ = _; (simp -implicitDefEqProofs (disch := first | omega | (simp only [vz_push, vz_set, drop_size]; done) | (simp only [vz_push, vz_set, drop_size]; omega)) only [drop_ne, gp_ne, gp_eq, gs_ne, gs_eq]); rfl) (Nat.le_refl _) rfl rfl (Ses.firm (firm_eS p))) Ses.nil)))⟩
theorem cells_ok (hrep : ∀ d : Nat, d ≤ 16 → PC (XK k) 95 [tx [48], .c (.int .i64 d)] (tx (List.replicate d 48))) (p : Int × Int) (own : Int) : PC (XK k) 17 [.agg (eS p), .c (.int .i64 own)] (LC (cellsS p own)) := by
  refine PC_of fun s => ?_
  refine f17_in (hk _ (by decide)) ?_
  have hcl := cls p.1
  cases hd : dangerV p.1
  · have hd2 := hd
    simp only [dangerV, decide_eq_true_eq, decide_eq_false_iff_not] at hd2
    repeat' (first | ((first | apply ga_dec | apply ga_ndec | apply cd_dec | apply cd_ndec | apply gd_dec | apply gd_ndec | apply ga_split | apply cd_split | apply gd_split) <;> intro hc <;> (try (simp -implicitDefEqProofs (maxSteps := 2000000) (disch := first | omega | (simp only [vz_push, vz_set, drop_size]; done) | (simp only [vz_push, vz_set, drop_size]; omega)) only [push_cast, seval, f17N0, f17N1, f17N2, f17N3, hc, eS, hd, eC])) <;> (try (exfalso; omega))) | refine VC_pure (maker_ok hk p own) ?_ | refine VC_pure (danger_ok hk _) ?_ | refine VC_pure (classOf_ok hk _) ?_ | refine VC_pure (maker1_ok hk p own _ _) ?_ | refine VC_pure (width_ok hk _) ?_ | (simp -implicitDefEqProofs (maxSteps := 2000000) (disch := first | omega | (simp only [vz_push, vz_set, drop_size]; done) | (simp only [vz_push, vz_set, drop_size]; omega)) only [push_cast, seval, f17N0, f17N1, f17N2, f17N3, eS, hd, eC]))
    · refine Gw.step (s0 := s) (m := 1) (sz := 5) Gw.nil (by (repeat first | assumption | exact KeepA.refl _ | apply KeepA.push | refine KeepA.set ?_ (by first | omega | (simp only [vz_push, vz_set, drop_size]; omega) | (have h9 := KeepA.size_le (by assumption); (try simp only [vz_push, vz_set, drop_size] at *); omega)) _ | refine KeepA.drop ?_ (by first | omega | (simp only [vz_push, vz_set, drop_size]; omega) | (have h9 := KeepA.size_le (by assumption); (try simp only [vz_push, vz_set, drop_size] at *); omega)) | refine KeepA.trans ?_ (by assumption))) rfl rfl rfl (room_ok (by constructor <;> (try dsimp only) <;> omega)) ?_
      intro v' s2 hg hbt hn hk'
      have hg2 : s2.get s.size = some (.own ⟨[.c (.int .i64 p.1), .c (.int .i64 p.2)], 28, 0, 0, false⟩) := hbt.get (by (simp -implicitDefEqProofs (disch := first | omega | (simp only [vz_push, vz_set, drop_size]; done) | (simp only [vz_push, vz_set, drop_size]; omega)) only [drop_ne, gp_ne, gp_eq, gs_ne, gs_eq])) (by simp [blkOf])
      have hsz : s.size + 1 + 1 ≤ s2.size := hbt.1
      by_cases h2 : classOf p.1 = 2
      · repeat' (first | ((first | apply ga_dec | apply ga_ndec | apply cd_dec | apply cd_ndec | apply gd_dec | apply gd_ndec | apply ga_split | apply cd_split | apply gd_split) <;> intro hc <;> (try (simp -implicitDefEqProofs (maxSteps := 2000000) (disch := first | omega | (simp only [vz_push, vz_set, drop_size]; done) | (simp only [vz_push, vz_set, drop_size]; omega)) only [push_cast, seval, f17N0, f17N1, f17N2, f17N3, hc, eS, hd, eC, hg2, widthV, h2])) <;> (try (exfalso; omega))) | refine VC_pure (maker1_ok hk p own _ _) ?_ | refine VC_pure (width_ok hk _) ?_ | (simp -implicitDefEqProofs (maxSteps := 2000000) (disch := first | omega | (simp only [vz_push, vz_set, drop_size]; done) | (simp only [vz_push, vz_set, drop_size]; omega)) only [push_cast, seval, f17N0, f17N1, f17N2, f17N3, eS, hd, eC, hg2, widthV, h2]))
        refine Gw.step (m := 1) (hg.push _) (hk'.push _) rfl rfl rfl (room_ok (by constructor <;> (try dsimp only) <;> omega)) ?_
        intro v'' s3 hg' hbt' hn' hk''
        (try (simp -implicitDefEqProofs (maxSteps := 2000000) (disch := first | omega | (simp only [vz_push, vz_set, drop_size]; done) | (simp only [vz_push, vz_set, drop_size]; omega)) only [push_cast, seval, f17N0, f17N1, f17N2, f17N3])) <;> (repeat' ((first | apply ga_dec | apply ga_ndec | apply cd_dec | apply cd_ndec | apply gd_dec | apply gd_ndec | apply ga_split | apply cd_split | apply gd_split) <;> intro hc <;> try (simp -implicitDefEqProofs (maxSteps := 2000000) (disch := first | omega | (simp only [vz_push, vz_set, drop_size]; done) | (simp only [vz_push, vz_set, drop_size]; omega)) only [push_cast, seval, f17N0, f17N1, f17N2, f17N3, hc])))
        refine Gw.outm (l := cellsS p own) (f := eC) (hg'.cast rfl ?_) hk'' (fun _ => rfl) firm_eC (by decide)
        · unfold cellsS; rw [hd]; simp [h2, eC]
      · have h3 : ¬ widthV p.1 = 2 := by unfold widthV; (repeat' split) <;> omega
        repeat' (first | ((first | apply ga_dec | apply ga_ndec | apply cd_dec | apply cd_ndec | apply gd_dec | apply gd_ndec | apply ga_split | apply cd_split | apply gd_split) <;> intro hc <;> (try (simp -implicitDefEqProofs (maxSteps := 2000000) (disch := first | omega | (simp only [vz_push, vz_set, drop_size]; done) | (simp only [vz_push, vz_set, drop_size]; omega)) only [push_cast, seval, f17N0, f17N1, f17N2, f17N3, hc, eS, hd, eC, hg2, h3])) <;> (try (exfalso; omega))) | refine VC_pure (maker1_ok hk p own _ _) ?_ | refine VC_pure (width_ok hk _) ?_ | (simp -implicitDefEqProofs (maxSteps := 2000000) (disch := first | omega | (simp only [vz_push, vz_set, drop_size]; done) | (simp only [vz_push, vz_set, drop_size]; omega)) only [push_cast, seval, f17N0, f17N1, f17N2, f17N3, eS, hd, eC, hg2, h3]))
        refine Gw.outm (l := cellsS p own) (f := eC) (hg.cast rfl ?_) hk' (fun _ => rfl) firm_eC (by decide)
        · have h0 : ¬ classOf p.1 = 0 := by omega
          unfold cellsS; rw [hd]; simp [h2, eC, h0]
    · refine out_nil (by (repeat first | assumption | exact KeepA.refl _ | apply KeepA.push | refine KeepA.set ?_ (by first | omega | (simp only [vz_push, vz_set, drop_size]; omega) | (have h9 := KeepA.size_le (by assumption); (try simp only [vz_push, vz_set, drop_size] at *); omega)) _ | refine KeepA.drop ?_ (by first | omega | (simp only [vz_push, vz_set, drop_size]; omega) | (have h9 := KeepA.size_le (by assumption); (try simp only [vz_push, vz_set, drop_size] at *); omega)) | refine KeepA.trans ?_ (by assumption))) ?_
      have : cellsS p own = [] := by unfold cellsS; rw [hd]; simp; omega
      rw [this]; rfl
  · have htl := textV_len p.1
    repeat' (first | ((first | apply ga_dec | apply ga_ndec | apply cd_dec | apply cd_ndec | apply gd_dec | apply gd_ndec | apply ga_split | apply cd_split | apply gd_split) <;> intro hc <;> (try (simp -implicitDefEqProofs (maxSteps := 2000000) (disch := first | omega | (simp only [vz_push, vz_set, drop_size]; done) | (simp only [vz_push, vz_set, drop_size]; omega)) only [push_cast, seval, f17N0, f17N1, f17N2, f17N3, hc, eS, hd])) <;> (try (exfalso; omega))) | refine VC_pure (maker_ok hk p own) ?_ | refine VC_pure (danger_ok hk _) ?_ | refine VC_pure (text_ok hk hrep _) ?_ | (simp -implicitDefEqProofs (maxSteps := 2000000) (disch := first | omega | (simp only [vz_push, vz_set, drop_size]; done) | (simp only [vz_push, vz_set, drop_size]; omega)) only [push_cast, seval, f17N0, f17N1, f17N2, f17N3, eS, hd]))
    refine VW_iter (fun m ρ s' => ∃ j : Nat, m = (textV p.1).length - j ∧ j ≤ (textV p.1).length ∧ ρ.get 5 = mkF p own ∧ ρ.get 7 = tx (textV p.1) ∧ ρ.get 8 = .c (.int .i64 j) ∧ (Gw s s' 70 5 (ρ.get 6) (tellC (looksS p) own p.1 0 ((textV p.1).take j)).length ((tellC (looksS p) own p.1 0 ((textV p.1).take j)).map eC).flatten) ∧ (KeepA s s')) ((textV p.1).length) ⟨0, rfl, Nat.zero_le _, by (((try simp -implicitDefEqProofs only [eA_tmp, eA_const, AEnv.get_set, ofA_get, List.getD_cons_zero, List.getD_cons_succ, ↓reduceIte, reduceCtorEq, Nat.reduceEqDiff]); try (first | (with_reducible assumption) | (with_reducible rfl) | (congr 2 <;> omega) | rfl))), by (((try simp -implicitDefEqProofs only [eA_tmp, eA_const, AEnv.get_set, ofA_get, List.getD_cons_zero, List.getD_cons_succ, ↓reduceIte, reduceCtorEq, Nat.reduceEqDiff]); try (first | (with_reducible assumption) | (with_reducible rfl) | (congr 2 <;> omega) | rfl))), by (((try simp -implicitDefEqProofs only [eA_tmp, eA_const, AEnv.get_set, ofA_get, List.getD_cons_zero, List.getD_cons_succ, ↓reduceIte, reduceCtorEq, Nat.reduceEqDiff]); try (first | (with_reducible assumption) | (with_reducible rfl) | (congr 2 <;> omega) | rfl))), (by (((try simp -implicitDefEqProofs only [eA_tmp, eA_const, AEnv.get_set, ofA_get, List.getD_cons_zero, List.getD_cons_succ, ↓reduceIte, reduceCtorEq, Nat.reduceEqDiff]); try (first | (with_reducible assumption) | (with_reducible rfl) | (congr 2 <;> omega) | rfl))); exact Gw.nil), by (repeat first | assumption | exact KeepA.refl _ | apply KeepA.push | refine KeepA.set ?_ (by first | omega | (simp only [vz_push, vz_set, drop_size]; omega) | (have h9 := KeepA.size_le (by assumption); (try simp only [vz_push, vz_set, drop_size] at *); omega)) _ | refine KeepA.drop ?_ (by first | omega | (simp only [vz_push, vz_set, drop_size]; omega) | (have h9 := KeepA.size_le (by assumption); (try simp only [vz_push, vz_set, drop_size] at *); omega)) | refine KeepA.trans ?_ (by assumption))⟩ ?_
    rintro m ρ s' ⟨j, rfl, hj, g5, g7, g8, j1, j2⟩
    obtain ⟨v, g6⟩ : ∃ v, ρ.get 6 = v := ⟨_, rfl⟩
    rw [g6] at j1
    simp -implicitDefEqProofs (maxSteps := 2000000) (disch := first | omega | (simp only [vz_push, vz_set, drop_size]; done) | (simp only [vz_push, vz_set, drop_size]; omega)) only [push_cast, seval, f17N0, f17N1, f17N2, f17N3, g5, g7, g8, g6]
    refine cd_dec (fun hc => ?_) (fun hc => ?_)
    · obtain ⟨c, hx⟩ : ∃ c, (textV p.1)[j]? = some c := ⟨_, List.getElem?_eq_getElem (by omega)⟩
      have hb := byte_lt c
      have hstep : tellC (looksS p) own p.1 0 ((textV p.1).take (j + 1)) = tellC (looksS p) own p.1 0 ((textV p.1).take j) ++ [((c.toNat : Int), looksS p, own, p.1, (j : Int))] := by
        rw [take_snoc hx, tellC_snoc, List.length_take, Nat.min_eq_left (by omega), Nat.zero_add]
      have hlj : (tellC (looksS p) own p.1 0 ((textV p.1).take j)).length = j := by rw [tellC_len, List.length_take]; omega
      generalize tellC (looksS p) own p.1 0 ((textV p.1).take j) = cl at *
      repeat' (first | ((first | apply ga_dec | apply ga_ndec | apply cd_dec | apply cd_ndec | apply gd_dec | apply gd_ndec | apply ga_split | apply cd_split | apply gd_split) <;> intro hc <;> (try (simp -implicitDefEqProofs (maxSteps := 2000000) (disch := first | omega | (simp only [vz_push, vz_set, drop_size]; done) | (simp only [vz_push, vz_set, drop_size]; omega)) only [push_cast, seval, f17N0, f17N1, f17N2, f17N3, hc, g5, g7, g8, g6, hx, eC])) <;> (try (exfalso; omega))) | refine VC_pure (maker1_ok hk p own _ _) ?_ | (simp -implicitDefEqProofs (maxSteps := 2000000) (disch := first | omega | (simp only [vz_push, vz_set, drop_size]; done) | (simp only [vz_push, vz_set, drop_size]; omega)) only [push_cast, seval, f17N0, f17N1, f17N2, f17N3, g5, g7, g8, g6, hx, eC]))
      refine Gw.step (j1.push _) (j2.push _) rfl rfl rfl (room_ok (by constructor <;> (try dsimp only) <;> omega)) ?_
      intro v' s2 hg hbt hn hk'
      (try (simp -implicitDefEqProofs (maxSteps := 2000000) (disch := first | omega | (simp only [vz_push, vz_set, drop_size]; done) | (simp only [vz_push, vz_set, drop_size]; omega)) only [push_cast, seval, f17N0, f17N1, f17N2, f17N3, g5, g7, g8])) <;> (repeat' ((first | apply ga_dec | apply ga_ndec | apply cd_dec | apply cd_ndec | apply gd_dec | apply gd_ndec | apply ga_split | apply cd_split | apply gd_split) <;> intro hc <;> try (simp -implicitDefEqProofs (maxSteps := 2000000) (disch := first | omega | (simp only [vz_push, vz_set, drop_size]; done) | (simp only [vz_push, vz_set, drop_size]; omega)) only [push_cast, seval, f17N0, f17N1, f17N2, f17N3, hc, g5, g7, g8])))
      refine ⟨_ - (j + 1), by omega, j + 1, rfl, by omega, ?_⟩ <;> (try simp only [Int.natCast_add, Int.natCast_one, cast_lit, and_true, true_and, eq_self])
      rw [hstep]
      exact ⟨hg.cast (by simp) (by simp [eC]), hk'⟩
    · obtain rfl : j = (textV p.1).length := by omega
      (try (simp -implicitDefEqProofs (maxSteps := 2000000) (disch := first | omega | (simp only [vz_push, vz_set, drop_size]; done) | (simp only [vz_push, vz_set, drop_size]; omega)) only [push_cast, seval, f17N0, f17N1, f17N2, f17N3, g5, g7, g8, g6])) <;> (repeat' ((first | apply ga_dec | apply ga_ndec | apply cd_dec | apply cd_ndec | apply gd_dec | apply gd_ndec | apply ga_split | apply cd_split | apply gd_split) <;> intro hc <;> try (simp -implicitDefEqProofs (maxSteps := 2000000) (disch := first | omega | (simp only [vz_push, vz_set, drop_size]; done) | (simp only [vz_push, vz_set, drop_size]; omega)) only [push_cast, seval, f17N0, f17N1, f17N2, f17N3, hc, g5, g7, g8, g6])))
      rw [List.take_length] at j1
      have e : cellsS p own = tellC (looksS p) own p.1 0 (textV p.1) := by unfold cellsS; rw [hd]; rfl
      rw [e]
      exact Gw.outm j1 j2 (fun _ => rfl) firm_eC (by decide)
theorem rcells_ok (p : Int × Int) (own : Int) : PC (XK k) 18 [.agg (eS p), .c (.int .i64 own)] (LC (cellsS p own)) := by
  refine PC_of fun s => ?_
  refine f18_in (hk _ (by decide)) ?_
  have hcl := cls p.1
  have htl := textV_len p.1
  cases hd : dangerV p.1
  all_goals have hd2 := hd
  all_goals simp only [dangerV, decide_eq_true_eq, decide_eq_false_iff_not] at hd2
  all_goals repeat' (first | ((first | apply ga_dec | apply ga_ndec | apply cd_dec | apply cd_ndec | apply gd_dec | apply gd_ndec | apply ga_split | apply cd_split | apply gd_split) <;> intro hc <;> (try (simp -implicitDefEqProofs (maxSteps := 2000000) (disch := first | omega | (simp only [vz_push, vz_set, drop_size]; done) | (simp only [vz_push, vz_set, drop_size]; omega)) only [push_cast, seval, f18N0, f18N1, f18N2, f18N3, f18N4, hc, eS, hd, eC])) <;> (try (exfalso; omega))) | refine VC_pure (rlooks_ok hk p) ?_ | refine VC_pure (rof_ok hk _) ?_ | refine VC_pure (rtext_ok hk _) ?_ | (simp -implicitDefEqProofs (maxSteps := 2000000) (disch := first | omega | (simp only [vz_push, vz_set, drop_size]; done) | (simp only [vz_push, vz_set, drop_size]; omega)) only [push_cast, seval, f18N0, f18N1, f18N2, f18N3, f18N4, eS, hd, eC]))
  · refine out_nil (by (repeat first | assumption | exact KeepA.refl _ | apply KeepA.push | refine KeepA.set ?_ (by first | omega | (simp only [vz_push, vz_set, drop_size]; omega) | (have h9 := KeepA.size_le (by assumption); (try simp only [vz_push, vz_set, drop_size] at *); omega)) _ | refine KeepA.drop ?_ (by first | omega | (simp only [vz_push, vz_set, drop_size]; omega) | (have h9 := KeepA.size_le (by assumption); (try simp only [vz_push, vz_set, drop_size] at *); omega)) | refine KeepA.trans ?_ (by assumption))) ?_
    have : cellsS p own = [] := by unfold cellsS; rw [hd]; simp; omega
    rw [this]; rfl
  · have hl : Gw s (((s.push (.own ⟨[.c (.int .i64 p.1), .c (.int .i64 p.2)], 28, 0, 0, false⟩)).push (.own ⟨eC (p.1, looksS p, own, p.1, 0), 70, 0, 0, false⟩)).push (.own ⟨eC (-1, looksS p, own, p.1, 1), 70, 0, 0, false⟩)) 70 5 (.sl ⟨s.size + 1, 0, none⟩ 1 (capX 1)) 1 (eC (p.1, looksS p, own, p.1, 0)) :=
      Gw.room (s.size + 1) 1 1 _ [] 70 (by rw [List.append_nil]; (simp -implicitDefEqProofs (disch := first | omega | (simp only [vz_push, vz_set, drop_size]; done) | (simp only [vz_push, vz_set, drop_size]; omega)) only [drop_ne, gp_ne, gp_eq, gs_ne, gs_eq])) (by omega) rfl rfl (Nat.le_refl _)
    refine Gw.step (m := 1) hl (by (repeat first | assumption | exact KeepA.refl _ | apply KeepA.push | refine KeepA.set ?_ (by first | omega | (simp only [vz_push, vz_set, drop_size]; omega) | (have h9 := KeepA.size_le (by assumption); (try simp only [vz_push, vz_set, drop_size] at *); omega)) _ | refine KeepA.drop ?_ (by first | omega | (simp only [vz_push, vz_set, drop_size]; omega) | (have h9 := KeepA.size_le (by assumption); (try simp only [vz_push, vz_set, drop_size] at *); omega)) | refine KeepA.trans ?_ (by assumption))) rfl rfl rfl (room_ok (by constructor <;> (try dsimp only) <;> omega)) ?_
    intro v'' s3 hg' hbt' hn' hk''
    (try (simp -implicitDefEqProofs (maxSteps := 2000000) (disch := first | omega | (simp only [vz_push, vz_set, drop_size]; done) | (simp only [vz_push, vz_set, drop_size]; omega)) only [push_cast, seval, f18N0, f18N1, f18N2, f18N3, f18N4])) <;> (repeat' ((first | apply ga_dec | apply ga_ndec | apply cd_dec | apply cd_ndec | apply gd_dec | apply gd_ndec | apply ga_split | apply cd_split | apply gd_split) <;> intro hc <;> try (simp -implicitDefEqProofs (maxSteps := 2000000) (disch := first | omega | (simp only [vz_push, vz_set, drop_size]; done) | (simp only [vz_push, vz_set, drop_size]; omega)) only [push_cast, seval, f18N0, f18N1, f18N2, f18N3, f18N4, hc])))
    refine Gw.outm (l := cellsS p own) (f := eC) (hg'.cast rfl ?_) hk'' (fun _ => rfl) firm_eC (by decide)
    have h2 : classOf p.1 = 2 := by omega
    unfold cellsS; rw [hd]; simp [h2, eC]
  · have hl : Gw s ((s.push (.own ⟨[.c (.int .i64 p.1), .c (.int .i64 p.2)], 28, 0, 0, false⟩)).push (.own ⟨eC (p.1, looksS p, own, p.1, 0), 70, 0, 0, false⟩)) 70 5 (.sl ⟨s.size + 1, 0, none⟩ 1 (capX 1)) 1 (eC (p.1, looksS p, own, p.1, 0)) :=
      Gw.room (s.size + 1) 1 1 _ [] 70 (by rw [List.append_nil]; (simp -implicitDefEqProofs (disch := first | omega | (simp only [vz_push, vz_set, drop_size]; done) | (simp only [vz_push, vz_set, drop_size]; omega)) only [drop_ne, gp_ne, gp_eq, gs_ne, gs_eq])) (by omega) rfl rfl (Nat.le_refl _)
    refine Gw.outm (l := cellsS p own) (f := eC) (hl.cast rfl ?_) (by (repeat first | assumption | exact KeepA.refl _ | apply KeepA.push | refine KeepA.set ?_ (by first | omega | (simp only [vz_push, vz_set, drop_size]; omega) | (have h9 := KeepA.size_le (by assumption); (try simp only [vz_push, vz_set, drop_size] at *); omega)) _ | refine KeepA.drop ?_ (by first | omega | (simp only [vz_push, vz_set, drop_size]; omega) | (have h9 := KeepA.size_le (by assumption); (try simp only [vz_push, vz_set, drop_size] at *); omega)) | refine KeepA.trans ?_ (by assumption))) (fun _ => rfl) firm_eC (by decide)
    have h2 : ¬ classOf p.1 = 2 := by omega
    have h0 : ¬ classOf p.1 = 0 := by omega
    unfold cellsS; rw [hd]; simp [h2, eC, h0]
  · skip
    refine VW_iter (fun m ρ s' => ∃ j : Nat, m = (textV p.1).length - j ∧ j ≤ (textV p.1).length ∧ ρ.get 2 = .ptr ⟨s.size, 0, none⟩ ∧ ρ.get 1 = .c (.int .i64 own) ∧ ρ.get 5 = .c (.int .i64 (looksS p)) ∧ ρ.get 8 = tx (textV p.1) ∧ ρ.get 10 = .c (.int .i64 j) ∧ (Gw (s.push (.own ⟨[.c (.int .i64 p.1), .c (.int .i64 p.2)], 28, 0, 0, false⟩)) s' 70 5 (ρ.get 9) (tellC (looksS p) own p.1 0 ((textV p.1).take j)).length ((tellC (looksS p) own p.1 0 ((textV p.1).take j)).map eC).flatten) ∧ (KeepA (s.push (.own ⟨[.c (.int .i64 p.1), .c (.int .i64 p.2)], 28, 0, 0, false⟩)) s')) ((textV p.1).length) ⟨0, rfl, Nat.zero_le _, by (((try simp -implicitDefEqProofs only [eA_tmp, eA_const, AEnv.get_set, ofA_get, List.getD_cons_zero, List.getD_cons_succ, ↓reduceIte, reduceCtorEq, Nat.reduceEqDiff]); try (first | (with_reducible assumption) | (with_reducible rfl) | (congr 2 <;> omega) | rfl))), by (((try simp -implicitDefEqProofs only [eA_tmp, eA_const, AEnv.get_set, ofA_get, List.getD_cons_zero, List.getD_cons_succ, ↓reduceIte, reduceCtorEq, Nat.reduceEqDiff]); try (first | (with_reducible assumption) | (with_reducible rfl) | (congr 2 <;> omega) | rfl))), by (((try simp -implicitDefEqProofs only [eA_tmp, eA_const, AEnv.get_set, ofA_get, List.getD_cons_zero, List.getD_cons_succ, ↓reduceIte, reduceCtorEq, Nat.reduceEqDiff]); try (first | (with_reducible assumption) | (with_reducible rfl) | (congr 2 <;> omega) | rfl))), by (((try simp -implicitDefEqProofs only [eA_tmp, eA_const, AEnv.get_set, ofA_get, List.getD_cons_zero, List.getD_cons_succ, ↓reduceIte, reduceCtorEq, Nat.reduceEqDiff]); try (first | (with_reducible assumption) | (with_reducible rfl) | (congr 2 <;> omega) | rfl))), by (((try simp -implicitDefEqProofs only [eA_tmp, eA_const, AEnv.get_set, ofA_get, List.getD_cons_zero, List.getD_cons_succ, ↓reduceIte, reduceCtorEq, Nat.reduceEqDiff]); try (first | (with_reducible assumption) | (with_reducible rfl) | (congr 2 <;> omega) | rfl))), (by (((try simp -implicitDefEqProofs only [eA_tmp, eA_const, AEnv.get_set, ofA_get, List.getD_cons_zero, List.getD_cons_succ, ↓reduceIte, reduceCtorEq, Nat.reduceEqDiff]); try (first | (with_reducible assumption) | (with_reducible rfl) | (congr 2 <;> omega) | rfl))); exact Gw.nil), by (repeat first | assumption | exact KeepA.refl _ | apply KeepA.push | refine KeepA.set ?_ (by first | omega | (simp only [vz_push, vz_set, drop_size]; omega) | (have h9 := KeepA.size_le (by assumption); (try simp only [vz_push, vz_set, drop_size] at *); omega)) _ | refine KeepA.drop ?_ (by first | omega | (simp only [vz_push, vz_set, drop_size]; omega) | (have h9 := KeepA.size_le (by assumption); (try simp only [vz_push, vz_set, drop_size] at *); omega)) | refine KeepA.trans ?_ (by assumption))⟩ ?_
    rintro m ρ s' ⟨j, rfl, hj, g2, g1, g5, g8, g10, j1, j2⟩
    obtain ⟨v, g9⟩ : ∃ v, ρ.get 9 = v := ⟨_, rfl⟩
    rw [g9] at j1
    have hgs : s'.get s.size = some (.own ⟨[.c (.int .i64 p.1), .c (.int .i64 p.2)], 28, 0, 0, false⟩) := j2.get (gp_eq rfl)
    have hsz := j2.1
    rw [vz_push] at hsz
    simp -implicitDefEqProofs (maxSteps := 2000000) (disch := first | omega | (simp only [vz_push, vz_set, drop_size]; done) | (simp only [vz_push, vz_set, drop_size]; omega)) only [push_cast, seval, f18N0, f18N1, f18N2, f18N3, f18N4, g8, g10]
    refine cd_dec (fun hc => ?_) (fun hc => ?_)
    · obtain ⟨c, hx⟩ : ∃ c, (textV p.1)[j]? = some c := ⟨_, List.getElem?_eq_getElem (by omega)⟩
      have hb := byte_lt c
      have hstep : tellC (looksS p) own p.1 0 ((textV p.1).take (j + 1)) = tellC (looksS p) own p.1 0 ((textV p.1).take j) ++ [((c.toNat : Int), looksS p, own, p.1, (j : Int))] := by
        rw [take_snoc hx, tellC_snoc, List.length_take, Nat.min_eq_left (by omega), Nat.zero_add]
      have hlj : (tellC (looksS p) own p.1 0 ((textV p.1).take j)).length = j := by rw [tellC_len, List.length_take]; omega
      generalize tellC (looksS p) own p.1 0 ((textV p.1).take j) = cl at *
      (try (simp -implicitDefEqProofs (maxSteps := 2000000) (disch := first | omega | (simp only [vz_push, vz_set, drop_size]; done) | (simp only [vz_push, vz_set, drop_size]; omega)) only [push_cast, seval, f18N0, f18N1, f18N2, f18N3, f18N4, g1, g2, g5, g8, g9, g10, hx, eC, hgs])) <;> (repeat' ((first | apply ga_dec | apply ga_ndec | apply cd_dec | apply cd_ndec | apply gd_dec | apply gd_ndec | apply ga_split | apply cd_split | apply gd_split) <;> intro hc <;> try (simp -implicitDefEqProofs (maxSteps := 2000000) (disch := first | omega | (simp only [vz_push, vz_set, drop_size]; done) | (simp only [vz_push, vz_set, drop_size]; omega)) only [push_cast, seval, f18N0, f18N1, f18N2, f18N3, f18N4, hc, g1, g2, g5, g8, g9, g10, hx, eC, hgs])))
      refine Gw.step (m := 1) (j1.push _) (j2.push _) rfl rfl rfl (room_ok (by constructor <;> (try dsimp only) <;> omega)) ?_
      intro v' s2 hg hbt hn hk'
      (try (simp -implicitDefEqProofs (maxSteps := 2000000) (disch := first | omega | (simp only [vz_push, vz_set, drop_size]; done) | (simp only [vz_push, vz_set, drop_size]; omega)) only [push_cast, seval, f18N0, f18N1, f18N2, f18N3, f18N4, g1, g2, g5, g8, g10])) <;> (repeat' ((first | apply ga_dec | apply ga_ndec | apply cd_dec | apply cd_ndec | apply gd_dec | apply gd_ndec | apply ga_split | apply cd_split | apply gd_split) <;> intro hc <;> try (simp -implicitDefEqProofs (maxSteps := 2000000) (disch := first | omega | (simp only [vz_push, vz_set, drop_size]; done) | (simp only [vz_push, vz_set, drop_size]; omega)) only [push_cast, seval, f18N0, f18N1, f18N2, f18N3, f18N4, hc, g1, g2, g5, g8, g10])))
      refine ⟨_ - (j + 1), by omega, j + 1, rfl, by omega, ?_⟩ <;> (try simp only [Int.natCast_add, Int.natCast_one, cast_lit, and_true, true_and, eq_self])
      rw [hstep]
      exact ⟨hg.cast (by simp) (by simp [eC]), hk'⟩
    · obtain rfl : j = (textV p.1).length := by omega
      (try (simp -implicitDefEqProofs (maxSteps := 2000000) (disch := first | omega | (simp only [vz_push, vz_set, drop_size]; done) | (simp only [vz_push, vz_set, drop_size]; omega)) only [push_cast, seval, f18N0, f18N1, f18N2, f18N3, f18N4, g9])) <;> (repeat' ((first | apply ga_dec | apply ga_ndec | apply cd_dec | apply cd_ndec | apply gd_dec | apply gd_ndec | apply ga_split | apply cd_split | apply gd_split) <;> intro hc <;> try (simp -implicitDefEqProofs (maxSteps := 2000000) (disch := first | omega | (simp only [vz_push, vz_set, drop_size]; done) | (simp only [vz_push, vz_set, drop_size]; omega)) only [push_cast, seval, f18N0, f18N1, f18N2, f18N3, f18N4, hc, g9])))
      rw [List.take_length] at j1
      have e : cellsS p own = tellC (looksS p) own p.1 0 (textV p.1) := by unfold cellsS; rw [hd]; rfl
      rw [e]
      exact Gw.outm (j1.mono (by rw [vz_push]; omega)) (by (repeat first | assumption | exact KeepA.refl _ | apply KeepA.push | refine KeepA.set ?_ (by first | omega | (simp only [vz_push, vz_set, drop_size]; omega) | (have h9 := KeepA.size_le (by assumption); (try simp only [vz_push, vz_set, drop_size] at *); omega)) _ | refine KeepA.drop ?_ (by first | omega | (simp only [vz_push, vz_set, drop_size]; omega) | (have h9 := KeepA.size_le (by assumption); (try simp only [vz_push, vz_set, drop_size] at *); omega)) | refine KeepA.trans ?_ (by assumption))) (fun _ => rfl) firm_eC (by decide)
theorem all6_ok (a b : List Cl) (hn : a.length < 1099511627776) : PC (XK k) 22 [LC a, LC b] (.c (.bool (decide (a = b)))) := by
  refine PC_of fun s => ?_
  refine f22_in (hk _ (by decide)) ?_
  (try (simp -implicitDefEqProofs (maxSteps := 2000000) (disch := first | omega | (simp only [vz_push, vz_set, drop_size]; done) | (simp only [vz_push, vz_set, drop_size]; omega)) only [push_cast, seval, f22N0, f22N1, f22N2])) <;> (repeat' ((first | apply ga_dec | apply ga_ndec | apply cd_dec | apply cd_ndec | apply gd_dec | apply gd_ndec | apply ga_split | apply cd_split | apply gd_split) <;> intro hc <;> try (simp -implicitDefEqProofs (maxSteps := 2000000) (disch := first | omega | (simp only [vz_push, vz_set, drop_size]; done) | (simp only [vz_push, vz_set, drop_size]; omega)) only [push_cast, seval, f22N0, f22N1, f22N2, hc])))
  · exact out_bool (by (repeat first | assumption | exact KeepA.refl _ | apply KeepA.push | refine KeepA.set ?_ (by first | omega | (simp only [vz_push, vz_set, drop_size]; omega) | (have h9 := KeepA.size_le (by assumption); (try simp only [vz_push, vz_set, drop_size] at *); omega)) _ | refine KeepA.drop ?_ (by first | omega | (simp only [vz_push, vz_set, drop_size]; omega) | (have h9 := KeepA.size_le (by assumption); (try simp only [vz_push, vz_set, drop_size] at *); omega)) | refine KeepA.trans ?_ (by assumption))) (by symm; simp; rintro rfl; exact hc rfl)
  · have hl : a.length = b.length := by omega
    refine VW_iter (fun m ρ s' => ∃ i : Nat, m = a.length - i ∧ i ≤ a.length ∧ ρ.get 0 = LC a ∧ ρ.get 1 = LC b ∧ ρ.get 5 = .c (.int .i64 i) ∧ (s' = s) ∧ (a.take i = b.take i)) (a.length) ⟨0, rfl, Nat.zero_le _, by (((try simp -implicitDefEqProofs only [eA_tmp, eA_const, AEnv.get_set, ofA_get, List.getD_cons_zero, List.getD_cons_succ, ↓reduceIte, reduceCtorEq, Nat.reduceEqDiff]); try (first | (with_reducible assumption) | (with_reducible rfl) | (congr 2 <;> omega) | rfl))), by (((try simp -implicitDefEqProofs only [eA_tmp, eA_const, AEnv.get_set, ofA_get, List.getD_cons_zero, List.getD_cons_succ, ↓reduceIte, reduceCtorEq, Nat.reduceEqDiff]); try (first | (with_reducible assumption) | (with_reducible rfl) | (congr 2 <;> omega) | rfl))), by (((try simp -implicitDefEqProofs only [eA_tmp, eA_const, AEnv.get_set, ofA_get, List.getD_cons_zero, List.getD_cons_succ, ↓reduceIte, reduceCtorEq, Nat.reduceEqDiff]); try (first | (with_reducible assumption) | (with_reducible rfl) | (congr 2 <;> omega) | rfl))), rfl, rfl⟩ ?_
    rintro m ρ s' ⟨i, rfl, hi, g0, g1, g5, j1, j2⟩
    subst j1
    (try (simp -implicitDefEqProofs (maxSteps := 2000000) (disch := first | omega | (simp only [vz_push, vz_set, drop_size]; done) | (simp only [vz_push, vz_set, drop_size]; omega)) only [push_cast, seval, f22N0, f22N1, f22N2, g0, g1, g5])) <;> (repeat' ((first | apply ga_dec | apply ga_ndec | apply cd_dec | apply cd_ndec | apply gd_dec | apply gd_ndec | apply ga_split | apply cd_split | apply gd_split) <;> intro hc <;> try (simp -implicitDefEqProofs (maxSteps := 2000000) (disch := first | omega | (simp only [vz_push, vz_set, drop_size]; done) | (simp only [vz_push, vz_set, drop_size]; omega)) only [push_cast, seval, f22N0, f22N1, f22N2, hc, g0, g1, g5])))
    · have hil : i < a.length := by omega
      have hx := List.getElem?_eq_getElem hil
      have hy := List.getElem?_eq_getElem (show i < b.length by omega)
      generalize a[i] = x at hx
      generalize b[i] = y at hy
      obtain ⟨x1, x2, x3, x4, x5⟩ := x
      obtain ⟨y1, y2, y3, y4, y5⟩ := y
      (try (simp -implicitDefEqProofs (maxSteps := 2000000) (disch := first | omega | (simp only [vz_push, vz_set, drop_size]; done) | (simp only [vz_push, vz_set, drop_size]; omega)) only [push_cast, seval, f22N0, f22N1, f22N2, g0, g1, g5, hx, hy, eC])) <;> (repeat' ((first | apply ga_dec | apply ga_ndec | apply cd_dec | apply cd_ndec | apply gd_dec | apply gd_ndec | apply ga_split | apply cd_split | apply gd_split) <;> intro hc <;> try (simp -implicitDefEqProofs (maxSteps := 2000000) (disch := first | omega | (simp only [vz_push, vz_set, drop_size]; done) | (simp only [vz_push, vz_set, drop_size]; omega)) only [push_cast, seval, f22N0, f22N1, f22N2, hc, g0, g1, g5, hx, hy, eC])))
      · exact out_bool (by (repeat first | assumption | exact KeepA.refl _ | apply KeepA.push | refine KeepA.set ?_ (by first | omega | (simp only [vz_push, vz_set, drop_size]; omega) | (have h9 := KeepA.size_le (by assumption); (try simp only [vz_push, vz_set, drop_size] at *); omega)) _ | refine KeepA.drop ?_ (by first | omega | (simp only [vz_push, vz_set, drop_size]; omega) | (have h9 := KeepA.size_le (by assumption); (try simp only [vz_push, vz_set, drop_size] at *); omega)) | refine KeepA.trans ?_ (by assumption))) (by symm; rw [decide_eq_false_iff_not]; rintro rfl; rw [hx] at hy; cases hy; simp at hc)
      · refine ⟨_ - (i + 1), by omega, i + 1, rfl, by omega, ?_⟩ <;> (try simp only [Int.natCast_add, Int.natCast_one, cast_lit, and_true, true_and, eq_self])
        rw [take_snoc hx, take_snoc hy, j2]
        simp at hc
        simp [hc]
    · have : i = a.length := by omega
      subst this
      rw [List.take_length, hl, List.take_length] at j2
      exact out_bool (by (repeat first | assumption | exact KeepA.refl _ | apply KeepA.push | refine KeepA.set ?_ (by first | omega | (simp only [vz_push, vz_set, drop_size]; omega) | (have h9 := KeepA.size_le (by assumption); (try simp only [vz_push, vz_set, drop_size] at *); omega)) _ | refine KeepA.drop ?_ (by first | omega | (simp only [vz_push, vz_set, drop_size]; omega) | (have h9 := KeepA.size_le (by assumption); (try simp only [vz_push, vz_set, drop_size] at *); omega)) | refine KeepA.trans ?_ (by assumption))) (by symm; exact decide_eq_true j2)
omit hk in
/-- The same to look at. -/
def lookSame (a b : List Cl) : Bool := decide (a.map (fun c => (c.1, c.2.1)) = b.map (fun c => (c.1, c.2.1)))
omit hk in
theorem look_len {a b : List Cl} (h : a.length ≠ b.length) : lookSame a b = false := by
  unfold lookSame
  rw [decide_eq_false_iff_not]
  intro e
  have := congrArg List.length e
  simp at this
  exact h this
theorem rlook_ok (a b : List Cl) (hn : a.length < 1099511627776) : PC (XK k) 25 [LC a, LC b] (.c (.bool (lookSame a b))) := by
  refine PC_of fun s => ?_
  refine f25_in (hk _ (by decide)) ?_
  (try (simp -implicitDefEqProofs (maxSteps := 2000000) (disch := first | omega | (simp only [vz_push, vz_set, drop_size]; done) | (simp only [vz_push, vz_set, drop_size]; omega)) only [push_cast, seval, f25N0, f25N1, f25N2])) <;> (repeat' ((first | apply ga_dec | apply ga_ndec | apply cd_dec | apply cd_ndec | apply gd_dec | apply gd_ndec | apply ga_split | apply cd_split | apply gd_split) <;> intro hc <;> try (simp -implicitDefEqProofs (maxSteps := 2000000) (disch := first | omega | (simp only [vz_push, vz_set, drop_size]; done) | (simp only [vz_push, vz_set, drop_size]; omega)) only [push_cast, seval, f25N0, f25N1, f25N2, hc])))
  · exact out_bool (by (repeat first | assumption | exact KeepA.refl _ | apply KeepA.push | refine KeepA.set ?_ (by first | omega | (simp only [vz_push, vz_set, drop_size]; omega) | (have h9 := KeepA.size_le (by assumption); (try simp only [vz_push, vz_set, drop_size] at *); omega)) _ | refine KeepA.drop ?_ (by first | omega | (simp only [vz_push, vz_set, drop_size]; omega) | (have h9 := KeepA.size_le (by assumption); (try simp only [vz_push, vz_set, drop_size] at *); omega)) | refine KeepA.trans ?_ (by assumption))) (look_len (by omega)).symm
  · have hl : a.length = b.length := by omega
    refine VW_iter (fun m ρ s' => ∃ i : Nat, m = a.length - i ∧ i ≤ a.length ∧ ρ.get 0 = LC a ∧ ρ.get 1 = LC b ∧ ρ.get 5 = .c (.int .i64 i) ∧ (s' = s) ∧ ((a.take i).map (fun c => (c.1, c.2.1)) = (b.take i).map (fun c => (c.1, c.2.1)))) (a.length) ⟨0, rfl, Nat.zero_le _, by (((try simp -implicitDefEqProofs only [eA_tmp, eA_const, AEnv.get_set, ofA_get, List.getD_cons_zero, List.getD_cons_succ, ↓reduceIte, reduceCtorEq, Nat.reduceEqDiff]); try (first | (with_reducible assumption) | (with_reducible rfl) | (congr 2 <;> omega) | rfl))), by (((try simp -implicitDefEqProofs only [eA_tmp, eA_const, AEnv.get_set, ofA_get, List.getD_cons_zero, List.getD_cons_succ, ↓reduceIte, reduceCtorEq, Nat.reduceEqDiff]); try (first | (with_reducible assumption) | (with_reducible rfl) | (congr 2 <;> omega) | rfl))), by (((try simp -implicitDefEqProofs only [eA_tmp, eA_const, AEnv.get_set, ofA_get, List.getD_cons_zero, List.getD_cons_succ, ↓reduceIte, reduceCtorEq, Nat.reduceEqDiff]); try (first | (with_reducible assumption) | (with_reducible rfl) | (congr 2 <;> omega) | rfl))), rfl, rfl⟩ ?_
    rintro m ρ s' ⟨i, rfl, hi, g0, g1, g5, j1, j2⟩
    subst j1
    (try (simp -implicitDefEqProofs (maxSteps := 2000000) (disch := first | omega | (simp only [vz_push, vz_set, drop_size]; done) | (simp only [vz_push, vz_set, drop_size]; omega)) only [push_cast, seval, f25N0, f25N1, f25N2, g0, g1, g5])) <;> (repeat' ((first | apply ga_dec | apply ga_ndec | apply cd_dec | apply cd_ndec | apply gd_dec | apply gd_ndec | apply ga_split | apply cd_split | apply gd_split) <;> intro hc <;> try (simp -implicitDefEqProofs (maxSteps := 2000000) (disch := first | omega | (simp only [vz_push, vz_set, drop_size]; done) | (simp only [vz_push, vz_set, drop_size]; omega)) only [push_cast, seval, f25N0, f25N1, f25N2, hc, g0, g1, g5])))
    · have hil : i < a.length := by omega
      have hx := List.getElem?_eq_getElem hil
      have hy := List.getElem?_eq_getElem (show i < b.length by omega)
      generalize a[i] = x at hx
      generalize b[i] = y at hy
      have fin : (¬ x.1 = y.1 ∨ ¬ x.2.1 = y.2.1) → lookSame a b = false := fun q => by
        unfold lookSame
        rw [decide_eq_false_iff_not]
        intro e
        have := congrArg (fun l => l[i]?) e
        simp [hx, hy] at this
        omega
      by_cases q1 : x.1 = y.1
      · by_cases q2 : x.2.1 = y.2.1
        · (try (simp -implicitDefEqProofs (maxSteps := 2000000) (disch := first | omega | (simp only [vz_push, vz_set, drop_size]; done) | (simp only [vz_push, vz_set, drop_size]; omega)) only [push_cast, seval, f25N0, f25N1, f25N2, g0, g1, g5, hx, hy, eC, q1, q2])) <;> (repeat' ((first | apply ga_dec | apply ga_ndec | apply cd_dec | apply cd_ndec | apply gd_dec | apply gd_ndec | apply ga_split | apply cd_split | apply gd_split) <;> intro hc <;> try (simp -implicitDefEqProofs (maxSteps := 2000000) (disch := first | omega | (simp only [vz_push, vz_set, drop_size]; done) | (simp only [vz_push, vz_set, drop_size]; omega)) only [push_cast, seval, f25N0, f25N1, f25N2, hc, g0, g1, g5, hx, hy, eC, q1, q2])))
          refine ⟨_ - (i + 1), by omega, i + 1, rfl, by omega, ?_⟩ <;> (try simp only [Int.natCast_add, Int.natCast_one, cast_lit, and_true, true_and, eq_self])
          rw [take_snoc hx, take_snoc hy, List.map_append, List.map_append, j2]
          simp [q1, q2]
        · (try (simp -implicitDefEqProofs (maxSteps := 2000000) (disch := first | omega | (simp only [vz_push, vz_set, drop_size]; done) | (simp only [vz_push, vz_set, drop_size]; omega)) only [push_cast, seval, f25N0, f25N1, f25N2, g0, g1, g5, hx, hy, eC, q1, q2])) <;> (repeat' ((first | apply ga_dec | apply ga_ndec | apply cd_dec | apply cd_ndec | apply gd_dec | apply gd_ndec | apply ga_split | apply cd_split | apply gd_split) <;> intro hc <;> try (simp -implicitDefEqProofs (maxSteps := 2000000) (disch := first | omega | (simp only [vz_push, vz_set, drop_size]; done) | (simp only [vz_push, vz_set, drop_size]; omega)) only [push_cast, seval, f25N0, f25N1, f25N2, hc, g0, g1, g5, hx, hy, eC, q1, q2])))
          exact out_bool (by (repeat first | assumption | exact KeepA.refl _ | apply KeepA.push | refine KeepA.set ?_ (by first | omega | (simp only [vz_push, vz_set, drop_size]; omega) | (have h9 := KeepA.size_le (by assumption); (try simp only [vz_push, vz_set, drop_size] at *); omega)) _ | refine KeepA.drop ?_ (by first | omega | (simp only [vz_push, vz_set, drop_size]; omega) | (have h9 := KeepA.size_le (by assumption); (try simp only [vz_push, vz_set, drop_size] at *); omega)) | refine KeepA.trans ?_ (by assumption))) (fin (.inr q2)).symm
      · (try (simp -implicitDefEqProofs (maxSteps := 2000000) (disch := first | omega | (simp only [vz_push, vz_set, drop_size]; done) | (simp only [vz_push, vz_set, drop_size]; omega)) only [push_cast, seval, f25N0, f25N1, f25N2, g0, g1, g5, hx, hy, eC, q1])) <;> (repeat' ((first | apply ga_dec | apply ga_ndec | apply cd_dec | apply cd_ndec | apply gd_dec | apply gd_ndec | apply ga_split | apply cd_split | apply gd_split) <;> intro hc <;> try (simp -implicitDefEqProofs (maxSteps := 2000000) (disch := first | omega | (simp only [vz_push, vz_set, drop_size]; done) | (simp only [vz_push, vz_set, drop_size]; omega)) only [push_cast, seval, f25N0, f25N1, f25N2, hc, g0, g1, g5, hx, hy, eC, q1])))
        exact out_bool (by (repeat first | assumption | exact KeepA.refl _ | apply KeepA.push | refine KeepA.set ?_ (by first | omega | (simp only [vz_push, vz_set, drop_size]; omega) | (have h9 := KeepA.size_le (by assumption); (try simp only [vz_push, vz_set, drop_size] at *); omega)) _ | refine KeepA.drop ?_ (by first | omega | (simp only [vz_push, vz_set, drop_size]; omega) | (have h9 := KeepA.size_le (by assumption); (try simp only [vz_push, vz_set, drop_size] at *); omega)) | refine KeepA.trans ?_ (by assumption))) (fin (.inl q1)).symm
    · have : i = a.length := by omega
      subst this
      rw [List.take_length, hl, List.take_length] at j2
      exact out_bool (by (repeat first | assumption | exact KeepA.refl _ | apply KeepA.push | refine KeepA.set ?_ (by first | omega | (simp only [vz_push, vz_set, drop_size]; omega) | (have h9 := KeepA.size_le (by assumption); (try simp only [vz_push, vz_set, drop_size] at *); omega)) _ | refine KeepA.drop ?_ (by first | omega | (simp only [vz_push, vz_set, drop_size]; omega) | (have h9 := KeepA.size_le (by assumption); (try simp only [vz_push, vz_set, drop_size] at *); omega)) | refine KeepA.trans ?_ (by assumption))) (by symm; exact decide_eq_true j2)
theorem look_ok (a b : List Cl) (hn : a.length < 1099511627776) : PC (XK k) 24 [LC a, LC b] (.c (.bool (lookSame a b))) := by
  refine PC_of fun s => ?_
  refine f24_in (hk _ (by decide)) ?_
  (try (simp -implicitDefEqProofs (maxSteps := 2000000) (disch := first | omega | (simp only [vz_push, vz_set, drop_size]; done) | (simp only [vz_push, vz_set, drop_size]; omega)) only [push_cast, seval, f24N0, f24N1, f24N2])) <;> (repeat' ((first | apply ga_dec | apply ga_ndec | apply cd_dec | apply cd_ndec | apply gd_dec | apply gd_ndec | apply ga_split | apply cd_split | apply gd_split) <;> intro hc <;> try (simp -implicitDefEqProofs (maxSteps := 2000000) (disch := first | omega | (simp only [vz_push, vz_set, drop_size]; done) | (simp only [vz_push, vz_set, drop_size]; omega)) only [push_cast, seval, f24N0, f24N1, f24N2, hc])))
  · exact out_bool (by (repeat first | assumption | exact KeepA.refl _ | apply KeepA.push | refine KeepA.set ?_ (by first | omega | (simp only [vz_push, vz_set, drop_size]; omega) | (have h9 := KeepA.size_le (by assumption); (try simp only [vz_push, vz_set, drop_size] at *); omega)) _ | refine KeepA.drop ?_ (by first | omega | (simp only [vz_push, vz_set, drop_size]; omega) | (have h9 := KeepA.size_le (by assumption); (try simp only [vz_push, vz_set, drop_size] at *); omega)) | refine KeepA.trans ?_ (by assumption))) (look_len (by omega)).symm
  · have hl : a.length = b.length := by omega
    refine VW_iter (fun m ρ s' => ∃ i : Nat, m = a.length - i ∧ i ≤ a.length ∧ ρ.get 0 = LC a ∧ ρ.get 1 = LC b ∧ ρ.get 12 = .c (.int .i64 a.length) ∧ ρ.get 13 = .c (.int .i64 i) ∧ (s' = s) ∧ ((a.take i).map (fun c => (c.1, c.2.1)) = (b.take i).map (fun c => (c.1, c.2.1)))) (a.length) ⟨0, rfl, Nat.zero_le _, by (((try simp -implicitDefEqProofs only [eA_tmp, eA_const, AEnv.get_set, ofA_get, List.getD_cons_zero, List.getD_cons_succ, ↓reduceIte, reduceCtorEq, Nat.reduceEqDiff]); try (first | (with_reducible assumption) | (with_reducible rfl) | (congr 2 <;> omega) | rfl))), by (((try simp -implicitDefEqProofs only [eA_tmp, eA_const, AEnv.get_set, ofA_get, List.getD_cons_zero, List.getD_cons_succ, ↓reduceIte, reduceCtorEq, Nat.reduceEqDiff]); try (first | (with_reducible assumption) | (with_reducible rfl) | (congr 2 <;> omega) | rfl))), by (((try simp -implicitDefEqProofs only [eA_tmp, eA_const, AEnv.get_set, ofA_get, List.getD_cons_zero, List.getD_cons_succ, ↓reduceIte, reduceCtorEq, Nat.reduceEqDiff]); try (first | (with_reducible assumption) | (with_reducible rfl) | (congr 2 <;> omega) | rfl))), by (((try simp -implicitDefEqProofs only [eA_tmp, eA_const, AEnv.get_set, ofA_get, List.getD_cons_zero, List.getD_cons_succ, ↓reduceIte, reduceCtorEq, Nat.reduceEqDiff]); try (first | (with_reducible assumption) | (with_reducible rfl) | (congr 2 <;> omega) | rfl))), rfl, rfl⟩ ?_
    rintro m ρ s' ⟨i, rfl, hi, g0, g1, g12, g13, j1, j2⟩
    subst j1
    simp -implicitDefEqProofs (maxSteps := 2000000) (disch := first | omega | (simp only [vz_push, vz_set, drop_size]; done) | (simp only [vz_push, vz_set, drop_size]; omega)) only [push_cast, seval, f24N0, f24N1, f24N2, g12, g13]
    refine cd_dec (fun hc => ?_) (fun hc => ?_)
    · have hil : i < a.length := by omega
      have hx := List.getElem?_eq_getElem hil
      have hy := List.getElem?_eq_getElem (show i < b.length by omega)
      generalize a[i] = x at hx
      generalize b[i] = y at hy
      have fin : (¬ x.1 = y.1 ∨ ¬ x.2.1 = y.2.1) → lookSame a b = false := fun q => by
        unfold lookSame
        rw [decide_eq_false_iff_not]
        intro e
        have := congrArg (fun l => l[i]?) e
        simp [hx, hy] at this
        omega
      by_cases q1 : x.1 = y.1
      · by_cases q2 : x.2.1 = y.2.1
        · (try (simp -implicitDefEqProofs (maxSteps := 2000000) (disch := first | omega | (simp only [vz_push, vz_set, drop_size]; done) | (simp only [vz_push, vz_set, drop_size]; omega)) only [push_cast, seval, f24N0, f24N1, f24N2, g0, g1, g12, g13, hx, hy, eC, q1, q2])) <;> (repeat' ((first | apply ga_dec | apply ga_ndec | apply cd_dec | apply cd_ndec | apply gd_dec | apply gd_ndec | apply ga_split | apply cd_split | apply gd_split) <;> intro hc <;> try (simp -implicitDefEqProofs (maxSteps := 2000000) (disch := first | omega | (simp only [vz_push, vz_set, drop_size]; done) | (simp only [vz_push, vz_set, drop_size]; omega)) only [push_cast, seval, f24N0, f24N1, f24N2, hc, g0, g1, g12, g13, hx, hy, eC, q1, q2])))
          refine ⟨_ - (i + 1), by omega, i + 1, rfl, by omega, ?_⟩ <;> (try simp only [Int.natCast_add, Int.natCast_one, cast_lit, and_true, true_and, eq_self])
          rw [take_snoc hx, take_snoc hy, List.map_append, List.map_append, j2]
          simp [q1, q2]
        · (try (simp -implicitDefEqProofs (maxSteps := 2000000) (disch := first | omega | (simp only [vz_push, vz_set, drop_size]; done) | (simp only [vz_push, vz_set, drop_size]; omega)) only [push_cast, seval, f24N0, f24N1, f24N2, g0, g1, g12, g13, hx, hy, eC, q1, q2])) <;> (repeat' ((first | apply ga_dec | apply ga_ndec | apply cd_dec | apply cd_ndec | apply gd_dec | apply gd_ndec | apply ga_split | apply cd_split | apply gd_split) <;> intro hc <;> try (simp -implicitDefEqProofs (maxSteps := 2000000) (disch := first | omega | (simp only [vz_push, vz_set, drop_size]; done) | (simp only [vz_push, vz_set, drop_size]; omega)) only [push_cast, seval, f24N0, f24N1, f24N2, hc, g0, g1, g12, g13, hx, hy, eC, q1, q2])))
          exact out_bool (by (repeat first | assumption | exact KeepA.refl _ | apply KeepA.push | refine KeepA.set ?_ (by first | omega | (simp only [vz_push, vz_set, drop_size]; omega) | (have h9 := KeepA.size_le (by assumption); (try simp only [vz_push, vz_set, drop_size] at *); omega)) _ | refine KeepA.drop ?_ (by first | omega | (simp only [vz_push, vz_set, drop_size]; omega) | (have h9 := KeepA.size_le (by assumption); (try simp only [vz_push, vz_set, drop_size] at *); omega)) | refine KeepA.trans ?_ (by assumption))) (fin (.inr q2)).symm
      · (try (simp -implicitDefEqProofs (maxSteps := 2000000) (disch := first | omega | (simp only [vz_push, vz_set, drop_size]; done) | (simp only [vz_push, vz_set, drop_size]; omega)) only [push_cast, seval, f24N0, f24N1, f24N2, g0, g1, g12, g13, hx, hy, eC, q1])) <;> (repeat' ((first | apply ga_dec | apply ga_ndec | apply cd_dec | apply cd_ndec | apply gd_dec | apply gd_ndec | apply ga_split | apply cd_split | apply gd_split) <;> intro hc <;> try (simp -implicitDefEqProofs (maxSteps := 2000000) (disch := first | omega | (simp only [vz_push, vz_set, drop_size]; done) | (simp only [vz_push, vz_set, drop_size]; omega)) only [push_cast, seval, f24N0, f24N1, f24N2, hc, g0, g1, g12, g13, hx, hy, eC, q1])))
        exact out_bool (by (repeat first | assumption | exact KeepA.refl _ | apply KeepA.push | refine KeepA.set ?_ (by first | omega | (simp only [vz_push, vz_set, drop_size]; omega) | (have h9 := KeepA.size_le (by assumption); (try simp only [vz_push, vz_set, drop_size] at *); omega)) _ | refine KeepA.drop ?_ (by first | omega | (simp only [vz_push, vz_set, drop_size]; omega) | (have h9 := KeepA.size_le (by assumption); (try simp only [vz_push, vz_set, drop_size] at *); omega)) | refine KeepA.trans ?_ (by assumption))) (fin (.inl q1)).symm
    · have : i = a.length := by omega
      subst this
      rw [List.take_length, hl, List.take_length] at j2
      (try (simp -implicitDefEqProofs (maxSteps := 2000000) (disch := first | omega | (simp only [vz_push, vz_set, drop_size]; done) | (simp only [vz_push, vz_set, drop_size]; omega)) only [push_cast, seval, f24N0, f24N1, f24N2])) <;> (repeat' ((first | apply ga_dec | apply ga_ndec | apply cd_dec | apply cd_ndec | apply gd_dec | apply gd_ndec | apply ga_split | apply cd_split | apply gd_split) <;> intro hc <;> try (simp -implicitDefEqProofs (maxSteps := 2000000) (disch := first | omega | (simp only [vz_push, vz_set, drop_size]; done) | (simp only [vz_push, vz_set, drop_size]; omega)) only [push_cast, seval, f24N0, f24N1, f24N2, hc])))
      exact out_bool (by (repeat first | assumption | exact KeepA.refl _ | apply KeepA.push | refine KeepA.set ?_ (by first | omega | (simp only [vz_push, vz_set, drop_size]; omega) | (have h9 := KeepA.size_le (by assumption); (try simp only [vz_push, vz_set, drop_size] at *); omega)) _ | refine KeepA.drop ?_ (by first | omega | (simp only [vz_push, vz_set, drop_size]; omega) | (have h9 := KeepA.size_le (by assumption); (try simp only [vz_push, vz_set, drop_size] at *); omega)) | refine KeepA.trans ?_ (by assumption))) (by symm; exact decide_eq_true j2)
end
end Go.Proofs.YtpckldhojfjdmaaDoor.Ab
