/- Lines: what may be, places, signs that change places. -/
import Derived.Test.YtkmjgpoenljnaaaDoorL5
namespace Go.Proofs.YtkmjgpoenljnaaaDoor.Ab
open Go.Proofs
set_option maxRecDepth 100000
set_option maxHeartbeats 4000000
set_option linter.unusedSimpArgs false
set_option linter.unusedVariables false
set_option linter.unnecessarySimpa false
set_option linter.unusedSectionVars false
abbrev Ln := List (Int × Int) × Int
def eL (x : Ln) : List AV := [LS x.1, .c (.int .i64 x.2)]
theorem firm_eL (x : Ln) : FirmR (eL x) := FirmR.cons (Firm.LS _) (FirmR.cons (Firm.c _) FirmR.nil)
def mayL (x : Ln) : Bool := decide (0 ≤ x.2) && decide (x.2 ≤ x.1.length) && x.1.all rightS
section
variable {k : Nat → List Value → Option Value} (hk : ∀ f, Open k f)
include hk
theorem may_ok (x : Ln) (hn : x.1.length < 1000000) : PC (XK k) 14 [.agg (eL x)] (.c (.bool (mayL x))) := by
  refine PC_of fun s => ?_
  refine f14_in (hk _) ?_
  (try (simp -implicitDefEqProofs (maxSteps := 2000000) (disch := first | omega | (simp only [vz_push, vz_set, drop_size]; done) | (simp only [vz_push, vz_set, drop_size]; omega)) only [push_cast, seval, f14N0, eL])) <;> (repeat' ((first | apply ga_dec | apply ga_ndec | apply cd_dec | apply cd_ndec | apply gd_dec | apply gd_ndec | apply ga_split | apply cd_split | apply gd_split) <;> intro hc <;> try (simp -implicitDefEqProofs (maxSteps := 2000000) (disch := first | omega | (simp only [vz_push, vz_set, drop_size]; done) | (simp only [vz_push, vz_set, drop_size]; omega)) only [push_cast, seval, f14N0, hc, eL])))
  rotate_right
  · exact out_bool (by (repeat first | assumption | exact KeepA.refl _ | apply KeepA.push | refine KeepA.set ?_ (by first | omega | (simp only [vz_push, vz_set, drop_size]; omega) | (have h9 := KeepA.size_le (by assumption); (try simp only [vz_push, vz_set, drop_size] at *); omega)) _ | refine KeepA.drop ?_ (by first | omega | (simp only [vz_push, vz_set, drop_size]; omega) | (have h9 := KeepA.size_le (by assumption); (try simp only [vz_push, vz_set, drop_size] at *); omega)) | refine KeepA.trans ?_ (by assumption))) (by simp [mayL, *])
  · refine VC_pure (all_ok hk _ (by omega)) ?_
    (try (simp -implicitDefEqProofs (maxSteps := 2000000) (disch := first | omega | (simp only [vz_push, vz_set, drop_size]; done) | (simp only [vz_push, vz_set, drop_size]; omega)) only [push_cast, seval, f14N0])) <;> (repeat' ((first | apply ga_dec | apply ga_ndec | apply cd_dec | apply cd_ndec | apply gd_dec | apply gd_ndec | apply ga_split | apply cd_split | apply gd_split) <;> intro hc <;> try (simp -implicitDefEqProofs (maxSteps := 2000000) (disch := first | omega | (simp only [vz_push, vz_set, drop_size]; done) | (simp only [vz_push, vz_set, drop_size]; omega)) only [push_cast, seval, f14N0, hc])))
    exact out_bool (by (repeat first | assumption | exact KeepA.refl _ | apply KeepA.push | refine KeepA.set ?_ (by first | omega | (simp only [vz_push, vz_set, drop_size]; omega) | (have h9 := KeepA.size_le (by assumption); (try simp only [vz_push, vz_set, drop_size] at *); omega)) _ | refine KeepA.drop ?_ (by first | omega | (simp only [vz_push, vz_set, drop_size]; omega) | (have h9 := KeepA.size_le (by assumption); (try simp only [vz_push, vz_set, drop_size] at *); omega)) | refine KeepA.trans ?_ (by assumption))) (by simp [mayL, *])
  · exact out_bool (by (repeat first | assumption | exact KeepA.refl _ | apply KeepA.push | refine KeepA.set ?_ (by first | omega | (simp only [vz_push, vz_set, drop_size]; omega) | (have h9 := KeepA.size_le (by assumption); (try simp only [vz_push, vz_set, drop_size] at *); omega)) _ | refine KeepA.drop ?_ (by first | omega | (simp only [vz_push, vz_set, drop_size]; omega) | (have h9 := KeepA.size_le (by assumption); (try simp only [vz_push, vz_set, drop_size] at *); omega)) | refine KeepA.trans ?_ (by assumption))) (by simp [mayL, *])
theorem lsame_ok (x y : Ln) (hn : x.1.length < 1000000) : PC (XK k) 20 [.agg (eL x), .agg (eL y)] (.c (.bool (decide (x = y)))) := by
  refine PC_of fun s => ?_
  refine f20_in (hk _) ?_
  (try (simp -implicitDefEqProofs (maxSteps := 2000000) (disch := first | omega | (simp only [vz_push, vz_set, drop_size]; done) | (simp only [vz_push, vz_set, drop_size]; omega)) only [push_cast, seval, f20N0, eL])) <;> (repeat' ((first | apply ga_dec | apply ga_ndec | apply cd_dec | apply cd_ndec | apply gd_dec | apply gd_ndec | apply ga_split | apply cd_split | apply gd_split) <;> intro hc <;> try (simp -implicitDefEqProofs (maxSteps := 2000000) (disch := first | omega | (simp only [vz_push, vz_set, drop_size]; done) | (simp only [vz_push, vz_set, drop_size]; omega)) only [push_cast, seval, f20N0, hc, eL])))
  · refine VC_pure (rsame_ok hk _ _ (by omega)) ?_
    (try (simp -implicitDefEqProofs (maxSteps := 2000000) (disch := first | omega | (simp only [vz_push, vz_set, drop_size]; done) | (simp only [vz_push, vz_set, drop_size]; omega)) only [push_cast, seval, f20N0])) <;> (repeat' ((first | apply ga_dec | apply ga_ndec | apply cd_dec | apply cd_ndec | apply gd_dec | apply gd_ndec | apply ga_split | apply cd_split | apply gd_split) <;> intro hc <;> try (simp -implicitDefEqProofs (maxSteps := 2000000) (disch := first | omega | (simp only [vz_push, vz_set, drop_size]; done) | (simp only [vz_push, vz_set, drop_size]; omega)) only [push_cast, seval, f20N0, hc])))
    exact out_bool (by (repeat first | assumption | exact KeepA.refl _ | apply KeepA.push | refine KeepA.set ?_ (by first | omega | (simp only [vz_push, vz_set, drop_size]; omega) | (have h9 := KeepA.size_le (by assumption); (try simp only [vz_push, vz_set, drop_size] at *); omega)) _ | refine KeepA.drop ?_ (by first | omega | (simp only [vz_push, vz_set, drop_size]; omega) | (have h9 := KeepA.size_le (by assumption); (try simp only [vz_push, vz_set, drop_size] at *); omega)) | refine KeepA.trans ?_ (by assumption))) (by rw [decide_eq_decide, Prod.ext_iff]; simp [hc])
  · exact out_bool (by (repeat first | assumption | exact KeepA.refl _ | apply KeepA.push | refine KeepA.set ?_ (by first | omega | (simp only [vz_push, vz_set, drop_size]; omega) | (have h9 := KeepA.size_le (by assumption); (try simp only [vz_push, vz_set, drop_size] at *); omega)) _ | refine KeepA.drop ?_ (by first | omega | (simp only [vz_push, vz_set, drop_size]; omega) | (have h9 := KeepA.size_le (by assumption); (try simp only [vz_push, vz_set, drop_size] at *); omega)) | refine KeepA.trans ?_ (by assumption))) (by symm; rw [decide_eq_false_iff_not]; rintro rfl; exact hc rfl)
theorem light_ok (x : Ln) : PC (XK k) 13 [.agg (eL x)] (.c (.bool (decide (x.1.length ≤ 100)))) := by
  refine PC_of fun s => ?_
  refine f13_in (hk _) ?_
  (try (simp -implicitDefEqProofs (maxSteps := 2000000) (disch := first | omega | (simp only [vz_push, vz_set, drop_size]; done) | (simp only [vz_push, vz_set, drop_size]; omega)) only [push_cast, seval, f13N0, eL])) <;> (repeat' ((first | apply ga_dec | apply ga_ndec | apply cd_dec | apply cd_ndec | apply gd_dec | apply gd_ndec | apply ga_split | apply cd_split | apply gd_split) <;> intro hc <;> try (simp -implicitDefEqProofs (maxSteps := 2000000) (disch := first | omega | (simp only [vz_push, vz_set, drop_size]; done) | (simp only [vz_push, vz_set, drop_size]; omega)) only [push_cast, seval, f13N0, hc, eL])))
  exact out_bool (by (repeat first | assumption | exact KeepA.refl _ | apply KeepA.push | refine KeepA.set ?_ (by first | omega | (simp only [vz_push, vz_set, drop_size]; omega) | (have h9 := KeepA.size_le (by assumption); (try simp only [vz_push, vz_set, drop_size] at *); omega)) _ | refine KeepA.drop ?_ (by first | omega | (simp only [vz_push, vz_set, drop_size]; omega) | (have h9 := KeepA.size_le (by assumption); (try simp only [vz_push, vz_set, drop_size] at *); omega)) | refine KeepA.trans ?_ (by assumption))) (by rw [decide_eq_decide]; omega)
theorem lplace_ok (x : Ln) (i : Int) : PC (XK k) 65 [.agg (eL x), .c (.int .i64 i)] (.c (.int .i64 (placeI x.1.length i))) := by
  refine PC_of fun s => ?_
  refine f65_in (hk _) ?_
  (try (simp -implicitDefEqProofs (maxSteps := 2000000) (disch := first | omega | (simp only [vz_push, vz_set, drop_size]; done) | (simp only [vz_push, vz_set, drop_size]; omega)) only [push_cast, seval, f65N0, eL])) <;> (repeat' ((first | apply ga_dec | apply ga_ndec | apply cd_dec | apply cd_ndec | apply gd_dec | apply gd_ndec | apply ga_split | apply cd_split | apply gd_split) <;> intro hc <;> try (simp -implicitDefEqProofs (maxSteps := 2000000) (disch := first | omega | (simp only [vz_push, vz_set, drop_size]; done) | (simp only [vz_push, vz_set, drop_size]; omega)) only [push_cast, seval, f65N0, hc, eL])))
  refine out_int (by (repeat first | assumption | exact KeepA.refl _ | apply KeepA.push | refine KeepA.set ?_ (by first | omega | (simp only [vz_push, vz_set, drop_size]; omega) | (have h9 := KeepA.size_le (by assumption); (try simp only [vz_push, vz_set, drop_size] at *); omega)) _ | refine KeepA.drop ?_ (by first | omega | (simp only [vz_push, vz_set, drop_size]; omega) | (have h9 := KeepA.size_le (by assumption); (try simp only [vz_push, vz_set, drop_size] at *); omega)) | refine KeepA.trans ?_ (by assumption))) ?_
  unfold placeI
  (repeat' split) <;> omega
theorem lofWord_ok (l : List (Int × Int)) (i : Int) : PC (XK k) 68 [LS l, .c (.int .i64 i)] (.c (.bool (ofW l i))) := by
  refine PC_of fun s => ?_
  refine f68_in (hk _) ?_
  by_cases h : 0 ≤ i ∧ i < l.length
  · have hx := List.getElem?_eq_getElem (show i.toNat < l.length by omega)
    generalize l[i.toNat] = x at hx
    (try (simp -implicitDefEqProofs (maxSteps := 2000000) (disch := first | omega | (simp only [vz_push, vz_set, drop_size]; done) | (simp only [vz_push, vz_set, drop_size]; omega)) only [push_cast, seval, f68N0, hx, eS])) <;> (repeat' ((first | apply ga_dec | apply ga_ndec | apply cd_dec | apply cd_ndec | apply gd_dec | apply gd_ndec | apply ga_split | apply cd_split | apply gd_split) <;> intro hc <;> try (simp -implicitDefEqProofs (maxSteps := 2000000) (disch := first | omega | (simp only [vz_push, vz_set, drop_size]; done) | (simp only [vz_push, vz_set, drop_size]; omega)) only [push_cast, seval, f68N0, hc, hx, eS])))
    all_goals first | (exfalso; omega) | skip
    refine VC_pure (kind_ok hk _) ?_
    (try (simp -implicitDefEqProofs (maxSteps := 2000000) (disch := first | omega | (simp only [vz_push, vz_set, drop_size]; done) | (simp only [vz_push, vz_set, drop_size]; omega)) only [push_cast, seval, f68N0])) <;> (repeat' ((first | apply ga_dec | apply ga_ndec | apply cd_dec | apply cd_ndec | apply gd_dec | apply gd_ndec | apply ga_split | apply cd_split | apply gd_split) <;> intro hc <;> try (simp -implicitDefEqProofs (maxSteps := 2000000) (disch := first | omega | (simp only [vz_push, vz_set, drop_size]; done) | (simp only [vz_push, vz_set, drop_size]; omega)) only [push_cast, seval, f68N0, hc])))
    exact out_bool (by (repeat first | assumption | exact KeepA.refl _ | apply KeepA.push | refine KeepA.set ?_ (by first | omega | (simp only [vz_push, vz_set, drop_size]; omega) | (have h9 := KeepA.size_le (by assumption); (try simp only [vz_push, vz_set, drop_size] at *); omega)) _ | refine KeepA.drop ?_ (by first | omega | (simp only [vz_push, vz_set, drop_size]; omega) | (have h9 := KeepA.size_le (by assumption); (try simp only [vz_push, vz_set, drop_size] at *); omega)) | refine KeepA.trans ?_ (by assumption))) (by unfold ofW atK; simp [hx, h.1])
  · (try (simp -implicitDefEqProofs (maxSteps := 2000000) (disch := first | omega | (simp only [vz_push, vz_set, drop_size]; done) | (simp only [vz_push, vz_set, drop_size]; omega)) only [push_cast, seval, f68N0])) <;> (repeat' ((first | apply ga_dec | apply ga_ndec | apply cd_dec | apply cd_ndec | apply gd_dec | apply gd_ndec | apply ga_split | apply cd_split | apply gd_split) <;> intro hc <;> try (simp -implicitDefEqProofs (maxSteps := 2000000) (disch := first | omega | (simp only [vz_push, vz_set, drop_size]; done) | (simp only [vz_push, vz_set, drop_size]; omega)) only [push_cast, seval, f68N0, hc])))
    all_goals first | (exfalso; omega) | skip
    all_goals exact out_bool (by (repeat first | assumption | exact KeepA.refl _ | apply KeepA.push | refine KeepA.set ?_ (by first | omega | (simp only [vz_push, vz_set, drop_size]; omega) | (have h9 := KeepA.size_le (by assumption); (try simp only [vz_push, vz_set, drop_size] at *); omega)) _ | refine KeepA.drop ?_ (by first | omega | (simp only [vz_push, vz_set, drop_size]; omega) | (have h9 := KeepA.size_le (by assumption); (try simp only [vz_push, vz_set, drop_size] at *); omega)) | refine KeepA.trans ?_ (by assumption))) (by unfold ofW; simp [atK_out l i (by omega)])
/-- The signs around a place change places. -/
def swapAt (l : List (Int × Int)) (a : Nat) : List (Int × Int) := l.take (a - 1) ++ ((l[a]?).toList ++ (l[a - 1]?).toList) ++ l.drop (a + 1)
def swapL (x : Ln) : Ln := (swapAt x.1 (min x.2.toNat (x.1.length - 1)), (min x.2.toNat (x.1.length - 1) : Nat) + 1)
def canSwap (x : Ln) : Bool := !(decide (x.2 = 0) || decide (x.1.length < 2))
omit hk in
theorem split2 (l : List (Int × Int)) (a : Nat) (h1 : 0 < a) (h2 : a < l.length) : ∃ P x y Q, l = P ++ x :: y :: Q ∧ P.length = a - 1 ∧ swapAt l a = P ++ [y, x] ++ Q ∧ l[a - 1]? = some x ∧ l[a]? = some y ∧ l.take (a - 1) = P ∧ l.drop (a + 1) = Q := by
  have hx := List.getElem?_eq_getElem (show a - 1 < l.length by omega)
  have hy := List.getElem?_eq_getElem h2
  generalize l[a - 1] = x at hx
  generalize l[a] = y at hy
  refine ⟨l.take (a - 1), x, y, l.drop (a + 1), ?_, by rw [List.length_take]; omega, by unfold swapAt; rw [hx, hy]; rfl, hx, hy, rfl, rfl⟩
  have e1 := drop_at hx
  have e2 := drop_at hy
  rw [show a - 1 + 1 = a by omega] at e1
  conv => lhs; rw [← List.take_append_drop (a - 1) l, e1, e2]
omit hk in
theorem out_lineB {X : Prg} {s0 s : VS} {v : AV} {l : List (Int × Int)} {a a' : Int} {b b' : Bool} (h : KeepA s0 s) (hv : Se X (s0.size ≤ ·) (· < s0.size) s v (LS l)) (ha : a = a') (hb : b = b') : outP X s0 (.tup [.agg [LS l, .c (.int .i64 a')], .c (.bool b')]) (.tup [.agg [v, .c (.int .i64 a)], .c (.bool b)]) s := by
  subst ha; subst hb
  exact ⟨h, Se.tup (Ses.cons (Se.agg (Ses.cons hv (Ses.cons (Se.c _) Ses.nil))) (Ses.cons (Se.c _) Ses.nil))⟩
omit hk in
theorem se_LS {X : Prg} {s0 s : VS} {b n e : Nat} {l : List (Int × Int)} (hg : s.get b = some (.own ⟨(l.map eS).flatten, e, 0, 0, false⟩)) (hb : s0.size ≤ b) (hn : n = l.length) : Se X (s0.size ≤ ·) (· < s0.size) s (.sl ⟨b, 0, none⟩ n (capO n)) (LS l) := by
  subst hn
  refine Se.sl hg hb rfl ?_ (by rw [capO_half]; omega) (List.length_map _) (len_eS l) ?_
  · show 0 + l.length * 2 ≤ (l.map eS).flatten.length
    rw [flat_len_eS]; omega
  · show Ses X _ _ s (((l.map eS).flatten.drop 0).take (l.length * 2)) _
    rw [List.drop_zero, List.take_of_length_le (by rw [flat_len_eS]; omega)]
    exact Ses.firm (FirmR.flat (all_map firm_eS))
theorem swap_ok (x : Ln) (hn : x.1.length < 100000) (hm : 0 ≤ x.2 ∧ x.2 ≤ x.1.length) : PC (XK k) 16 [.agg (eL x)] (.tup [.agg (eL (if canSwap x = true then swapL x else x)), .c (.bool (canSwap x))]) := by
  refine PC_of fun s => ?_
  refine f16_in (hk _) ?_
  have hp : (placeI x.1.length x.2 : Int) = x.2 := by
    unfold placeI
    (repeat' split) <;> omega
  (try (simp -implicitDefEqProofs (maxSteps := 2000000) (disch := first | omega | (simp only [vz_push, vz_set, drop_size]; done) | (simp only [vz_push, vz_set, drop_size]; omega)) only [push_cast, seval, f16N0, f16N1, eL])) <;> (repeat' ((first | apply ga_dec | apply ga_ndec | apply cd_dec | apply cd_ndec | apply gd_dec | apply gd_ndec | apply ga_split | apply cd_split | apply gd_split) <;> intro hc <;> try (simp -implicitDefEqProofs (maxSteps := 2000000) (disch := first | omega | (simp only [vz_push, vz_set, drop_size]; done) | (simp only [vz_push, vz_set, drop_size]; omega)) only [push_cast, seval, f16N0, f16N1, hc, eL])))
  refine VC_row (gp_eq rfl) rfl (FirmR.cons (Firm.LS _) FirmR.nil) ?_
  refine VC_mono (concat_gr hk [x.1] (by simp) (by simp; omega) _) ?_
  simp only [List.flatten_cons, List.flatten_nil, List.append_nil]
  intro v s1 ⟨hkp, hv⟩
  have hsz : s.size + 3 ≤ s1.size := hkp.1
  have hg1 : s1.get s.size = some (.own ⟨[LS x.1, .c (.int .i64 x.2)], 24, 0, 0, false⟩) := hkp.get (by (simp -implicitDefEqProofs (disch := first | omega | (simp only [vz_push, vz_set, drop_size]; done) | (simp only [vz_push, vz_set, drop_size]; omega)) only [drop_ne, gp_ne, gp_eq, gs_ne, gs_eq]))
  have hv1 : s1.ver s.size = s.ver s.size := (hkp.2 s.size (by show s.size < s.size + 3; omega)).2
  have hg2 : s1.get (s.size + 1) = some (.own ⟨[.c (.slice none 0 0), .c (.int .i64 0)], 24, 0, 0, false⟩) := hkp.get (by (simp -implicitDefEqProofs (disch := first | omega | (simp only [vz_push, vz_set, drop_size]; done) | (simp only [vz_push, vz_set, drop_size]; omega)) only [drop_ne, gp_ne, gp_eq, gs_ne, gs_eq]))
  have hks : KeepA s s1 := by
    refine KeepA.trans ?_ hkp
    exact KeepA.drop (by (repeat first | assumption | exact KeepA.refl _ | apply KeepA.push | refine KeepA.set ?_ (by first | omega | (simp only [vz_push, vz_set, drop_size]; omega) | (have h9 := KeepA.size_le (by assumption); (try simp only [vz_push, vz_set, drop_size] at *); omega)) _ | refine KeepA.drop ?_ (by first | omega | (simp only [vz_push, vz_set, drop_size]; omega) | (have h9 := KeepA.size_le (by assumption); (try simp only [vz_push, vz_set, drop_size] at *); omega)) | refine KeepA.trans ?_ (by assumption))) (by show s.size ≤ s.size + 2; omega)
  have hbs : ∀ b o, s1.get b = some o → b < s1.size := fun b o h => VS.lt_of_get h
  clear hkp
  rcases hv with ⟨rfl, h0⟩ | ⟨b, rfl, hgb, hb⟩
  · have h0' : x.1.length = 0 := by rw [h0]; rfl
    have hcs : canSwap x = false := by unfold canSwap; simp; omega
    have e : (if canSwap x = true then swapL x else x) = ([], 0) := by
      rw [hcs, if_neg (by simp)]
      exact Prod.ext h0 (by show x.2 = 0; omega)
    rw [e, hcs]
    (try (simp -implicitDefEqProofs (maxSteps := 2000000) (disch := first | omega | (simp only [vz_push, vz_set, drop_size]; done) | (simp only [vz_push, vz_set, drop_size]; omega)) only [push_cast, seval, f16N0, f16N1, hg1, hv1, hsz])) <;> (repeat' ((first | apply ga_dec | apply ga_ndec | apply cd_dec | apply cd_ndec | apply gd_dec | apply gd_ndec | apply ga_split | apply cd_split | apply gd_split) <;> intro hc <;> try (simp -implicitDefEqProofs (maxSteps := 2000000) (disch := first | omega | (simp only [vz_push, vz_set, drop_size]; done) | (simp only [vz_push, vz_set, drop_size]; omega)) only [push_cast, seval, f16N0, f16N1, hc, hg1, hv1, hsz])))
    refine VC_pure (lplace_ok hk x x.2) ?_
    (try (simp -implicitDefEqProofs (maxSteps := 2000000) (disch := first | omega | (simp only [vz_push, vz_set, drop_size]; done) | (simp only [vz_push, vz_set, drop_size]; omega)) only [push_cast, seval, f16N0, f16N1, hg1, hv1, hg2, hsz, hp])) <;> (repeat' ((first | apply ga_dec | apply ga_ndec | apply cd_dec | apply cd_ndec | apply gd_dec | apply gd_ndec | apply ga_split | apply cd_split | apply gd_split) <;> intro hc <;> try (simp -implicitDefEqProofs (maxSteps := 2000000) (disch := first | omega | (simp only [vz_push, vz_set, drop_size]; done) | (simp only [vz_push, vz_set, drop_size]; omega)) only [push_cast, seval, f16N0, f16N1, hc, hg1, hv1, hg2, hsz, hp])))
    refine ⟨by omega, ?_⟩
    (try (simp -implicitDefEqProofs (maxSteps := 2000000) (disch := first | omega | (simp only [vz_push, vz_set, drop_size]; done) | (simp only [vz_push, vz_set, drop_size]; omega)) only [push_cast, seval, f16N0, f16N1, hg1, hv1, hg2, hsz, hp])) <;> (repeat' ((first | apply ga_dec | apply ga_ndec | apply cd_dec | apply cd_ndec | apply gd_dec | apply gd_ndec | apply ga_split | apply cd_split | apply gd_split) <;> intro hc <;> try (simp -implicitDefEqProofs (maxSteps := 2000000) (disch := first | omega | (simp only [vz_push, vz_set, drop_size]; done) | (simp only [vz_push, vz_set, drop_size]; omega)) only [push_cast, seval, f16N0, f16N1, hc, hg1, hv1, hg2, hsz, hp])))
    all_goals first | (exfalso; omega) | skip
    exact out_lineB (by (repeat first | assumption | exact KeepA.refl _ | apply KeepA.push | refine KeepA.set ?_ (by first | omega | (simp only [vz_push, vz_set, drop_size]; omega) | (have h9 := KeepA.size_le (by assumption); (try simp only [vz_push, vz_set, drop_size] at *); omega)) _ | refine KeepA.drop ?_ (by first | omega | (simp only [vz_push, vz_set, drop_size]; omega) | (have h9 := KeepA.size_le (by assumption); (try simp only [vz_push, vz_set, drop_size] at *); omega)) | refine KeepA.trans ?_ (by assumption))) (Se.nil _) (by omega) rfl
  · have hb3 : s.size + 3 ≤ b := hb
    have hbl : b < s1.size := hbs _ _ hgb
    by_cases hcs : canSwap x = true
    · have h01 : ¬ x.2 = 0 ∧ ¬ x.1.length < 2 := by
        unfold canSwap at hcs
        simp at hcs
        omega
      rw [if_pos hcs, hcs]
      unfold swapL
      have hmin : (if (x.1.length : Int) - 1 < x.2 then (x.1.length : Int) - 1 else x.2) = ((min x.2.toNat (x.1.length - 1) : Nat) : Int) := by
        split <;> omega
      have ha : 0 < min x.2.toNat (x.1.length - 1) ∧ min x.2.toNat (x.1.length - 1) < x.1.length := by omega
      generalize min x.2.toNat (x.1.length - 1) = a at hmin ha
      obtain ⟨P, p, q, Q, hl, hP, hsw, _, _, _, _⟩ := split2 x.1 a ha.1 ha.2
      rw [hsw]
      have hF : (P.map eS).flatten.length = (a - 1) * 2 := by rw [flat_len_eS, hP]
      have hlen : (x.1.map eS).flatten.length = x.1.length * 2 := flat_len_eS _
      have hcell : (x.1.map eS).flatten = (P.map eS).flatten ++ (eS p ++ (eS q ++ (Q.map eS).flatten)) := by rw [hl]; simp
      have f2 : ((x.1.map eS).flatten.drop ((a - 1) * 2)).take 2 = [.c (.int .i64 p.1), .c (.int .i64 p.2)] := by
        rw [hcell, ← hF, List.drop_left]; rfl
      have f1 : ((x.1.map eS).flatten.drop (a * 2)).take 2 = [.c (.int .i64 q.1), .c (.int .i64 q.2)] := by
        rw [hcell, show a * 2 = (P.map eS).flatten.length + 2 by rw [hF]; omega, ← List.drop_drop, List.drop_left]; rfl
      have f3 : overA (overA (x.1.map eS).flatten ((a - 1) * 2) [.c (.int .i64 q.1), .c (.int .i64 q.2)]) (a * 2) [.c (.int .i64 p.1), .c (.int .i64 p.2)] = ((P ++ [q, p] ++ Q).map eS).flatten := by
        rw [hcell, over_fill hF, show a * 2 = ((P.map eS).flatten ++ eS q).length by rw [List.length_append, hF]; show a * 2 = (a - 1) * 2 + 2; omega]
        rw [show ([.c (.int .i64 q.1), .c (.int .i64 q.2)] : List AV) = eS q from rfl, over_fill rfl]
        simp [eS]
      have h1 : ((a : Int) - 1).toNat = a - 1 := by omega
      have hn2 : x.1.length = (P ++ [q, p] ++ Q).length := by rw [hl]; simp
      simp only [overA, List.length_cons, List.length_nil] at f3
      generalize (x.1.map eS).flatten = cs at *
      (try (simp -implicitDefEqProofs (maxSteps := 2000000) (disch := first | omega | (simp only [vz_push, vz_set, drop_size]; done) | (simp only [vz_push, vz_set, drop_size]; omega)) only [push_cast, seval, f16N0, f16N1, hg1, hv1, hsz])) <;> (repeat' ((first | apply ga_dec | apply ga_ndec | apply cd_dec | apply cd_ndec | apply gd_dec | apply gd_ndec | apply ga_split | apply cd_split | apply gd_split) <;> intro hc <;> try (simp -implicitDefEqProofs (maxSteps := 2000000) (disch := first | omega | (simp only [vz_push, vz_set, drop_size]; done) | (simp only [vz_push, vz_set, drop_size]; omega)) only [push_cast, seval, f16N0, f16N1, hc, hg1, hv1, hsz])))
      refine VC_pure (lplace_ok hk x x.2) ?_
      (try (simp -implicitDefEqProofs (maxSteps := 2000000) (disch := first | omega | (simp only [vz_push, vz_set, drop_size]; done) | (simp only [vz_push, vz_set, drop_size]; omega)) only [push_cast, seval, f16N0, f16N1, hg1, hv1, hg2, hsz, hp])) <;> (repeat' ((first | apply ga_dec | apply ga_ndec | apply cd_dec | apply cd_ndec | apply gd_dec | apply gd_ndec | apply ga_split | apply cd_split | apply gd_split) <;> intro hc <;> try (simp -implicitDefEqProofs (maxSteps := 2000000) (disch := first | omega | (simp only [vz_push, vz_set, drop_size]; done) | (simp only [vz_push, vz_set, drop_size]; omega)) only [push_cast, seval, f16N0, f16N1, hc, hg1, hv1, hg2, hsz, hp])))
      refine ⟨by omega, ?_⟩
      (try (simp -implicitDefEqProofs (maxSteps := 2000000) (disch := first | omega | (simp only [vz_push, vz_set, drop_size]; done) | (simp only [vz_push, vz_set, drop_size]; omega)) only [push_cast, seval, (@vS (XK k) f16c1 f16c2 f16c0 rfl), (@vO (XK k) f16c1 _ _ _ rfl (by kernel_rfl)), (@vS (XK k) f16c3 f16c4 f16c2 rfl), (@vD (XK k) f16c3 _ _ _ [(2, []), (2, []), (0, []), (1, []), (2, [3]), (2, [3]), (2, []), (0, []), (1, [])] rfl (by kernel_rfl) (by kernel_rfl) (by kernel_rfl)), (@vS (XK k) f16c5 f16c6 f16c4 rfl), (@vD (XK k) f16c5 _ _ _ [(2, []), (2, []), (2, []), (1, []), (2, [3]), (2, [3]), (2, [3]), (2, []), (2, [])] rfl (by kernel_rfl) (by kernel_rfl) (by kernel_rfl)), (@vS (XK k) f16c7 f16c14 f16c6 rfl), (@vS (XK k) f16c8 f16c9 f16c7 rfl), (@vO (XK k) f16c8 _ _ _ rfl (by kernel_rfl)), (@vC (XK k) f16c10 f16c13 f16c9 (.tmp 26) rfl), (@vS (XK k) f16c11 f16c12 f16c10 rfl), (@vO (XK k) f16c11 _ _ _ rfl (by kernel_rfl)), (@vR (XK k) f16c12 rfl), (@vK (XK k) f16c13 rfl), (@vS (XK k) f16c15 f16c16 f16c14 rfl), (@vO (XK k) f16c15 _ _ _ rfl (by kernel_rfl)), (@vS (XK k) f16c17 f16c18 f16c16 rfl), (@vS (XK k) f16c19 f16c20 f16c18 rfl), (@vO (XK k) f16c19 _ _ _ rfl (by kernel_rfl)), (@vS (XK k) f16c21 f16c22 f16c20 rfl), (@vO (XK k) f16c21 _ _ _ rfl (by kernel_rfl)), (@vR (XK k) f16c22 rfl), hg1, hv1, hg2, hsz, hp, hmin, h01])) <;> (repeat' ((first | apply ga_dec | apply ga_ndec | apply cd_dec | apply cd_ndec | apply gd_dec | apply gd_ndec | apply ga_split | apply cd_split | apply gd_split) <;> intro hc <;> try (simp -implicitDefEqProofs (maxSteps := 2000000) (disch := first | omega | (simp only [vz_push, vz_set, drop_size]; done) | (simp only [vz_push, vz_set, drop_size]; omega)) only [push_cast, seval, (@vS (XK k) f16c1 f16c2 f16c0 rfl), (@vO (XK k) f16c1 _ _ _ rfl (by kernel_rfl)), (@vS (XK k) f16c3 f16c4 f16c2 rfl), (@vD (XK k) f16c3 _ _ _ [(2, []), (2, []), (0, []), (1, []), (2, [3]), (2, [3]), (2, []), (0, []), (1, [])] rfl (by kernel_rfl) (by kernel_rfl) (by kernel_rfl)), (@vS (XK k) f16c5 f16c6 f16c4 rfl), (@vD (XK k) f16c5 _ _ _ [(2, []), (2, []), (2, []), (1, []), (2, [3]), (2, [3]), (2, [3]), (2, []), (2, [])] rfl (by kernel_rfl) (by kernel_rfl) (by kernel_rfl)), (@vS (XK k) f16c7 f16c14 f16c6 rfl), (@vS (XK k) f16c8 f16c9 f16c7 rfl), (@vO (XK k) f16c8 _ _ _ rfl (by kernel_rfl)), (@vC (XK k) f16c10 f16c13 f16c9 (.tmp 26) rfl), (@vS (XK k) f16c11 f16c12 f16c10 rfl), (@vO (XK k) f16c11 _ _ _ rfl (by kernel_rfl)), (@vR (XK k) f16c12 rfl), (@vK (XK k) f16c13 rfl), (@vS (XK k) f16c15 f16c16 f16c14 rfl), (@vO (XK k) f16c15 _ _ _ rfl (by kernel_rfl)), (@vS (XK k) f16c17 f16c18 f16c16 rfl), (@vS (XK k) f16c19 f16c20 f16c18 rfl), (@vO (XK k) f16c19 _ _ _ rfl (by kernel_rfl)), (@vS (XK k) f16c21 f16c22 f16c20 rfl), (@vO (XK k) f16c21 _ _ _ rfl (by kernel_rfl)), (@vR (XK k) f16c22 rfl), hc, hg1, hv1, hg2, hsz, hp, hmin, h01])))
      all_goals first | (exfalso; omega) | skip
      (try (simp -implicitDefEqProofs (maxSteps := 2000000) (disch := first | omega | (simp only [vz_push, vz_set, drop_size]; done) | (simp only [vz_push, vz_set, drop_size]; omega)) only [push_cast, seval, f16N0, f16N1, hg1, hv1, hg2, hgb, hsz, hmin, h01, f1, f2, h1, hlen, List.length_append, List.length_take, List.length_drop])) <;> (repeat' ((first | apply ga_dec | apply ga_ndec | apply cd_dec | apply cd_ndec | apply gd_dec | apply gd_ndec | apply ga_split | apply cd_split | apply gd_split) <;> intro hc <;> try (simp -implicitDefEqProofs (maxSteps := 2000000) (disch := first | omega | (simp only [vz_push, vz_set, drop_size]; done) | (simp only [vz_push, vz_set, drop_size]; omega)) only [push_cast, seval, f16N0, f16N1, hc, hg1, hv1, hg2, hgb, hsz, hmin, h01, f1, f2, h1, hlen, List.length_append, List.length_take, List.length_drop])))
      refine out_lineB (by (repeat first | assumption | exact KeepA.refl _ | apply KeepA.push | refine KeepA.set ?_ (by first | omega | (simp only [vz_push, vz_set, drop_size]; omega) | (have h9 := KeepA.size_le (by assumption); (try simp only [vz_push, vz_set, drop_size] at *); omega)) _ | refine KeepA.drop ?_ (by first | omega | (simp only [vz_push, vz_set, drop_size]; omega) | (have h9 := KeepA.size_le (by assumption); (try simp only [vz_push, vz_set, drop_size] at *); omega)) | refine KeepA.trans ?_ (by assumption))) (se_LS (e := 39) ?_ (by omega) ?_) ?_ rfl
      · rw [← f3]
        (simp -implicitDefEqProofs (disch := first | omega | (simp only [vz_push, vz_set, drop_size]; done) | (simp only [vz_push, vz_set, drop_size]; omega)) only [drop_ne, gp_ne, gp_eq, gs_ne, gs_eq])
      · exact hn2
      · rfl
    · have hcf : canSwap x = false := by simpa using hcs
      have h01 : x.2 = 0 ∨ x.1.length < 2 := by
        unfold canSwap at hcf
        simp at hcf
        omega
      rw [if_neg hcs, hcf]
      (try (simp -implicitDefEqProofs (maxSteps := 2000000) (disch := first | omega | (simp only [vz_push, vz_set, drop_size]; done) | (simp only [vz_push, vz_set, drop_size]; omega)) only [push_cast, seval, f16N0, f16N1, hg1, hv1, hsz])) <;> (repeat' ((first | apply ga_dec | apply ga_ndec | apply cd_dec | apply cd_ndec | apply gd_dec | apply gd_ndec | apply ga_split | apply cd_split | apply gd_split) <;> intro hc <;> try (simp -implicitDefEqProofs (maxSteps := 2000000) (disch := first | omega | (simp only [vz_push, vz_set, drop_size]; done) | (simp only [vz_push, vz_set, drop_size]; omega)) only [push_cast, seval, f16N0, f16N1, hc, hg1, hv1, hsz])))
      refine VC_pure (lplace_ok hk x x.2) ?_
      (try (simp -implicitDefEqProofs (maxSteps := 2000000) (disch := first | omega | (simp only [vz_push, vz_set, drop_size]; done) | (simp only [vz_push, vz_set, drop_size]; omega)) only [push_cast, seval, f16N0, f16N1, hg1, hv1, hg2, hsz, hp])) <;> (repeat' ((first | apply ga_dec | apply ga_ndec | apply cd_dec | apply cd_ndec | apply gd_dec | apply gd_ndec | apply ga_split | apply cd_split | apply gd_split) <;> intro hc <;> try (simp -implicitDefEqProofs (maxSteps := 2000000) (disch := first | omega | (simp only [vz_push, vz_set, drop_size]; done) | (simp only [vz_push, vz_set, drop_size]; omega)) only [push_cast, seval, f16N0, f16N1, hc, hg1, hv1, hg2, hsz, hp])))
      refine ⟨by omega, ?_⟩
      (try (simp -implicitDefEqProofs (maxSteps := 2000000) (disch := first | omega | (simp only [vz_push, vz_set, drop_size]; done) | (simp only [vz_push, vz_set, drop_size]; omega)) only [push_cast, seval, (@vS (XK k) f16c1 f16c2 f16c0 rfl), (@vO (XK k) f16c1 _ _ _ rfl (by kernel_rfl)), (@vS (XK k) f16c3 f16c4 f16c2 rfl), (@vD (XK k) f16c3 _ _ _ [(2, []), (2, []), (0, []), (1, []), (2, [3]), (2, [3]), (2, []), (0, []), (1, [])] rfl (by kernel_rfl) (by kernel_rfl) (by kernel_rfl)), (@vS (XK k) f16c5 f16c6 f16c4 rfl), (@vD (XK k) f16c5 _ _ _ [(2, []), (2, []), (2, []), (1, []), (2, [3]), (2, [3]), (2, [3]), (2, []), (2, [])] rfl (by kernel_rfl) (by kernel_rfl) (by kernel_rfl)), (@vS (XK k) f16c7 f16c14 f16c6 rfl), (@vS (XK k) f16c8 f16c9 f16c7 rfl), (@vO (XK k) f16c8 _ _ _ rfl (by kernel_rfl)), (@vC (XK k) f16c10 f16c13 f16c9 (.tmp 26) rfl), (@vS (XK k) f16c11 f16c12 f16c10 rfl), (@vO (XK k) f16c11 _ _ _ rfl (by kernel_rfl)), (@vR (XK k) f16c12 rfl), (@vK (XK k) f16c13 rfl), (@vS (XK k) f16c15 f16c16 f16c14 rfl), (@vS (XK k) f16c17 f16c18 f16c16 rfl), (@vD (XK k) f16c17 _ _ _ [(2, []), (2, []), (2, []), (2, []), (2, []), (2, []), (2, []), (2, []), (2, []), (2, []), (2, []), (2, []), (2, []), (2, []), (2, []), (2, []), (2, []), (2, []), (2, []), (1, [4, 5, 6]), (2, []), (1, [])] rfl (by kernel_rfl) (by kernel_rfl) (by kernel_rfl)), (@vS (XK k) f16c19 f16c20 f16c18 rfl), (@vO (XK k) f16c19 _ _ _ rfl (by kernel_rfl)), (@vS (XK k) f16c21 f16c22 f16c20 rfl), (@vO (XK k) f16c21 _ _ _ rfl (by kernel_rfl)), (@vR (XK k) f16c22 rfl), hg1, hv1, hg2, hsz, hp])) <;> (repeat' ((first | apply ga_dec | apply ga_ndec | apply cd_dec | apply cd_ndec | apply gd_dec | apply gd_ndec | apply ga_split | apply cd_split | apply gd_split) <;> intro hc <;> try (simp -implicitDefEqProofs (maxSteps := 2000000) (disch := first | omega | (simp only [vz_push, vz_set, drop_size]; done) | (simp only [vz_push, vz_set, drop_size]; omega)) only [push_cast, seval, (@vS (XK k) f16c1 f16c2 f16c0 rfl), (@vO (XK k) f16c1 _ _ _ rfl (by kernel_rfl)), (@vS (XK k) f16c3 f16c4 f16c2 rfl), (@vD (XK k) f16c3 _ _ _ [(2, []), (2, []), (0, []), (1, []), (2, [3]), (2, [3]), (2, []), (0, []), (1, [])] rfl (by kernel_rfl) (by kernel_rfl) (by kernel_rfl)), (@vS (XK k) f16c5 f16c6 f16c4 rfl), (@vD (XK k) f16c5 _ _ _ [(2, []), (2, []), (2, []), (1, []), (2, [3]), (2, [3]), (2, [3]), (2, []), (2, [])] rfl (by kernel_rfl) (by kernel_rfl) (by kernel_rfl)), (@vS (XK k) f16c7 f16c14 f16c6 rfl), (@vS (XK k) f16c8 f16c9 f16c7 rfl), (@vO (XK k) f16c8 _ _ _ rfl (by kernel_rfl)), (@vC (XK k) f16c10 f16c13 f16c9 (.tmp 26) rfl), (@vS (XK k) f16c11 f16c12 f16c10 rfl), (@vO (XK k) f16c11 _ _ _ rfl (by kernel_rfl)), (@vR (XK k) f16c12 rfl), (@vK (XK k) f16c13 rfl), (@vS (XK k) f16c15 f16c16 f16c14 rfl), (@vS (XK k) f16c17 f16c18 f16c16 rfl), (@vD (XK k) f16c17 _ _ _ [(2, []), (2, []), (2, []), (2, []), (2, []), (2, []), (2, []), (2, []), (2, []), (2, []), (2, []), (2, []), (2, []), (2, []), (2, []), (2, []), (2, []), (2, []), (2, []), (1, [4, 5, 6]), (2, []), (1, [])] rfl (by kernel_rfl) (by kernel_rfl) (by kernel_rfl)), (@vS (XK k) f16c19 f16c20 f16c18 rfl), (@vO (XK k) f16c19 _ _ _ rfl (by kernel_rfl)), (@vS (XK k) f16c21 f16c22 f16c20 rfl), (@vO (XK k) f16c21 _ _ _ rfl (by kernel_rfl)), (@vR (XK k) f16c22 rfl), hc, hg1, hv1, hg2, hsz, hp])))
      all_goals first | (exfalso; omega) | skip
      all_goals refine out_lineB ?_ (se_LS (e := 39) ?_ ?_ ?_) ?_ rfl
      all_goals first | omega | rfl | (refine Eq.trans ?_ hgb; (simp -implicitDefEqProofs (disch := first | omega | (simp only [vz_push, vz_set, drop_size]; done) | (simp only [vz_push, vz_set, drop_size]; omega)) only [drop_ne, gp_ne, gp_eq, gs_ne, gs_eq])) | ((repeat first | assumption | exact KeepA.refl _ | apply KeepA.push | refine KeepA.set ?_ (by first | omega | (simp only [vz_push, vz_set, drop_size]; omega) | (have h9 := KeepA.size_le (by assumption); (try simp only [vz_push, vz_set, drop_size] at *); omega)) _ | refine KeepA.drop ?_ (by first | omega | (simp only [vz_push, vz_set, drop_size]; omega) | (have h9 := KeepA.size_le (by assumption); (try simp only [vz_push, vz_set, drop_size] at *); omega)) | refine KeepA.trans ?_ (by assumption)); done) | skip
end
end Go.Proofs.YtkmjgpoenljnaaaDoor.Ab
