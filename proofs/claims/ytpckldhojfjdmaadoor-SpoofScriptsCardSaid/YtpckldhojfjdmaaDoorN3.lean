/- How values and signs are shown. -/
import Derived.Test.YtpckldhojfjdmaaDoorN2
import Derived.Test.YtpckldhojfjdmaaDoorP2
namespace Go.Proofs.YtpckldhojfjdmaaDoor.Ab
open Go.Proofs
set_option maxRecDepth 100000
set_option maxHeartbeats 4000000
set_option linter.unusedSimpArgs false
set_option linter.unusedVariables false
set_option linter.unnecessarySimpa false
set_option linter.unusedSectionVars false
def imp (a b : Bool) : Bool := !a || b
def clsB (v : Int) : Bool :=
  imp (classOf v == 4) (decide (0 ≤ v) && decide (v ≤ 31)) && imp (classOf v == 5) (decide (127 ≤ v) && decide (v ≤ 127)) && imp (classOf v == 12) (decide (1114240 ≤ v) && decide (v ≤ 1114367)) &&
  imp (decide (classOf v ≤ 3) && decide (1 ≤ classOf v)) (decide (32 ≤ v) && decide (v ≤ 1114111) && !(decide (127 ≤ v) && decide (v ≤ 127))) && imp (decide (6 ≤ classOf v) && decide (classOf v ≤ 11)) (decide (128 ≤ v) && decide (v ≤ 1114111)) &&
  decide (0 ≤ classOf v) && decide (classOf v ≤ 12) && (decide (1 ≤ classOf v) == right v)
theorem clsB_all : (((-1) :: CC).all clsB) = true := by kernel_rfl
theorem clsB_v (v : Int) : clsB v = true := by
  obtain ⟨u, hu, h⟩ := repOf CC (fun c hc => of_decide_eq_true (List.all_eq_true.1 cc_pos c hc)) v
  rw [← List.all_eq_true.1 clsB_all u hu]
  obtain ⟨s1, _, _, _⟩ := same_all h
  have m : ∀ c : Int, c ∈ consts → (c ≤ v ↔ c ≤ u) ∧ (c + 1 ≤ v ↔ c + 1 ≤ u) := fun c hc => ⟨h c (List.mem_flatMap.2 ⟨c, hc, by simp⟩), h (c + 1) (List.mem_flatMap.2 ⟨c, hc, by simp⟩)⟩
  have w : ∀ c : Int, c ∈ [0, 31, 127, 128, 159, 1114111, 55295, 57343, 1114239, 1114240, 1114367] → (c ≤ v ↔ c ≤ u) ∧ (c + 1 ≤ v ↔ c + 1 ≤ u) := fun c hc => m c (List.mem_append_right _ hc)
  have k0 := w 0 (by decide)
  have k1 := w 31 (by decide)
  have k2 := w 127 (by decide)
  have k3 := w 128 (by decide)
  have k5 := w 1114111 (by decide)
  have k6 := w 55295 (by decide)
  have k7 := w 57343 (by decide)
  have k8 := w 1114239 (by decide)
  have k9 := w 1114240 (by decide)
  have k10 := w 1114367 (by decide)
  unfold clsB right
  have e1 : (0 ≤ v) = (0 ≤ u) := propext (by omega)
  have e2 : (v ≤ 1114111) = (u ≤ 1114111) := propext (by omega)
  have e3 : (v < 55296) = (u < 55296) := propext (by omega)
  have e4 : (57343 < v) = (57343 < u) := propext (by omega)
  have e5 : (1114240 ≤ v) = (1114240 ≤ u) := propext (by omega)
  have e6 : (v ≤ 1114367) = (u ≤ 1114367) := propext (by omega)
  have e7 : (v ≤ 31) = (u ≤ 31) := propext (by omega)
  have e8 : (32 ≤ v) = (32 ≤ u) := propext (by omega)
  have e9 : (127 ≤ v) = (127 ≤ u) := propext (by omega)
  have e10 : (v ≤ 127) = (u ≤ 127) := propext (by omega)
  have e11 : (128 ≤ v) = (128 ≤ u) := propext (by omega)
  rw [s1]
  simp only [e1, e2, e3, e4, e5, e6, e7, e8, e9, e10, e11]
/-- Where classes lie. -/
theorem cls (v : Int) : (classOf v = 4 → 0 ≤ v ∧ v ≤ 31) ∧ (classOf v = 5 → v = 127) ∧ (classOf v = 12 → 1114240 ≤ v ∧ v ≤ 1114367) ∧ (1 ≤ classOf v → classOf v ≤ 3 → 32 ≤ v ∧ v ≤ 1114111 ∧ v ≠ 127) ∧
    (6 ≤ classOf v → classOf v ≤ 11 → 128 ≤ v ∧ v ≤ 1114111) ∧ 0 ≤ classOf v ∧ classOf v ≤ 12 ∧ (1 ≤ classOf v ↔ right v = true) := by
  have h := clsB_v v
  unfold clsB imp at h
  simp only [Bool.and_eq_true, Bool.or_eq_true, Bool.not_eq_true', beq_eq_false_iff_ne, decide_eq_true_eq, Bool.and_eq_false_iff, decide_eq_false_iff_not, beq_iff_eq] at h
  obtain ⟨⟨⟨⟨⟨⟨⟨h1, h2⟩, h3⟩, h4⟩, h5⟩, h6⟩, h7⟩, h8⟩ := h
  refine ⟨by omega, by omega, by omega, by omega, by omega, h6, h7, ?_⟩
  constructor
  · intro q; rw [← h8]; simpa using q
  · intro q; rw [q] at h8; simpa using h8
/-- A value's shown text. -/
def textV (v : Int) : List UInt8 :=
  if classOf v = 0 then [] else if classOf v ≤ 3 then encV v else if classOf v = 4 then [94, UInt8.ofNat (v.toNat + 64)] else if classOf v = 5 then [94, 63]
  else if classOf v = 12 then [92, 120] ++ hexP (v.toNat - 1114112) 2 else [60, 85, 43] ++ hexP v.toNat 4 ++ [62]
def dangerV (v : Int) : Bool := decide (3 < classOf v)
def widthV (v : Int) : Int := if classOf v = 2 then 2 else if classOf v = 1 ∨ classOf v = 3 then 1 else 0
def colsV (v : Int) : Int := if dangerV v then (textV v).length else widthV v
def looksS (s : Int × Int) : Int := (if dangerV s.1 then 1 else 0) + (if s.2 = 2 ∨ s.2 = 3 ∨ s.2 = 4 then 2 else 0) + (if classOf s.1 = 3 then 4 else 0)
theorem hexP_len64 (n l : Nat) (h : n < 18446744073709551616) : (hexP n l).length ≤ l + 64 := by rw [← hexR_same]; exact hexR_len l h
theorem textV_len (v : Int) : (textV v).length ≤ 80 := by
  have := cls v
  unfold textV
  have h1 := encV_len4 v
  by_cases hv : v < 1114368
  · have h2 := hexP_len64 (v.toNat - 1114112) 2 (by omega)
    have h3 := hexP_len64 v.toNat 4 (by omega)
    (repeat' split) <;> (try simp only [List.length_append, List.length_cons, List.length_nil]) <;> omega
  · (repeat' split) <;> first | (simp; done) | omega | (exfalso; omega) | (simp only [List.length_append, List.length_cons, List.length_nil]; omega)
section
variable {k : Nat → List Value → Option Value} (hk : ∀ f, f ≠ 95 → Open k f)
include hk
theorem rof_ok (v : Int) : PC (XK k) 29 [.c (.int .i64 v)] (.c (.int .i64 (classOf v))) := by
  rw [(class_pure v).1]
  exact refOf_ok hk v
theorem danger_ok (v : Int) : PC (XK k) 60 [.c (.int .i64 v)] (.c (.bool (dangerV v))) := by
  have hc := cls v
  refine PC_of fun s => ?_
  refine f60_in (hk _ (by decide)) ?_
  repeat' (first | ((first | apply ga_dec | apply ga_ndec | apply cd_dec | apply cd_ndec | apply gd_dec | apply gd_ndec | apply ga_split | apply cd_split | apply gd_split) <;> intro hc <;> (try (simp -implicitDefEqProofs (maxSteps := 2000000) (disch := first | omega | (simp only [vz_push, vz_set, drop_size]; first | done | omega)) only [push_cast, seval, f60N0, f60N1, f60N2, hc])) <;> (try (exfalso; omega))) | refine VC_pure (classOf_ok hk v) ?_ | (simp -implicitDefEqProofs (maxSteps := 2000000) (disch := first | omega | (simp only [vz_push, vz_set, drop_size]; first | done | omega)) only [push_cast, seval, f60N0, f60N1, f60N2]))
  all_goals exact out_bool (by (repeat first | assumption | exact KeepA.refl _ | apply KeepA.push | refine KeepA.set ?_ (by first | omega | (simp only [vz_push, vz_set, drop_size]; omega) | (have h9 := KeepA.size_le (by assumption); (try simp only [vz_push, vz_set, drop_size] at *); omega)) _ | refine KeepA.drop ?_ (by first | omega | (simp only [vz_push, vz_set, drop_size]; omega) | (have h9 := KeepA.size_le (by assumption); (try simp only [vz_push, vz_set, drop_size] at *); omega)) | refine KeepA.trans ?_ (by assumption))) (by unfold dangerV; simp; omega)
theorem width_ok (v : Int) : PC (XK k) 62 [.c (.int .i64 v)] (.c (.int .i64 (widthV v))) := by
  refine PC_of fun s => ?_
  refine f62_in (hk _ (by decide)) ?_
  repeat' (first | ((first | apply ga_dec | apply ga_ndec | apply cd_dec | apply cd_ndec | apply gd_dec | apply gd_ndec | apply ga_split | apply cd_split | apply gd_split) <;> intro hc <;> (try (simp -implicitDefEqProofs (maxSteps := 2000000) (disch := first | omega | (simp only [vz_push, vz_set, drop_size]; first | done | omega)) only [push_cast, seval, f62N0, f62N1, f62N2, hc])) <;> (try (exfalso; omega))) | refine VC_pure (classOf_ok hk v) ?_ | (simp -implicitDefEqProofs (maxSteps := 2000000) (disch := first | omega | (simp only [vz_push, vz_set, drop_size]; first | done | omega)) only [push_cast, seval, f62N0, f62N1, f62N2]))
  all_goals exact out_int (by (repeat first | assumption | exact KeepA.refl _ | apply KeepA.push | refine KeepA.set ?_ (by first | omega | (simp only [vz_push, vz_set, drop_size]; omega) | (have h9 := KeepA.size_le (by assumption); (try simp only [vz_push, vz_set, drop_size] at *); omega)) _ | refine KeepA.drop ?_ (by first | omega | (simp only [vz_push, vz_set, drop_size]; omega) | (have h9 := KeepA.size_le (by assumption); (try simp only [vz_push, vz_set, drop_size] at *); omega)) | refine KeepA.trans ?_ (by assumption))) (by unfold widthV; (repeat' split) <;> omega)
theorem rwidth_ok (v : Int) : PC (XK k) 64 [.c (.int .i64 v)] (.c (.int .i64 (widthV v))) := by
  refine PC_of fun s => ?_
  refine f64_in (hk _ (by decide)) ?_
  repeat' (first | ((first | apply ga_dec | apply ga_ndec | apply cd_dec | apply cd_ndec | apply gd_dec | apply gd_ndec | apply ga_split | apply cd_split | apply gd_split) <;> intro hc <;> (try (simp -implicitDefEqProofs (maxSteps := 2000000) (disch := first | omega | (simp only [vz_push, vz_set, drop_size]; first | done | omega)) only [push_cast, seval, f64N0, f64N1, hc])) <;> (try (exfalso; omega))) | refine VC_pure (rof_ok hk v) ?_ | (simp -implicitDefEqProofs (maxSteps := 2000000) (disch := first | omega | (simp only [vz_push, vz_set, drop_size]; first | done | omega)) only [push_cast, seval, f64N0, f64N1]))
  all_goals exact out_int (by (repeat first | assumption | exact KeepA.refl _ | apply KeepA.push | refine KeepA.set ?_ (by first | omega | (simp only [vz_push, vz_set, drop_size]; omega) | (have h9 := KeepA.size_le (by assumption); (try simp only [vz_push, vz_set, drop_size] at *); omega)) _ | refine KeepA.drop ?_ (by first | omega | (simp only [vz_push, vz_set, drop_size]; omega) | (have h9 := KeepA.size_le (by assumption); (try simp only [vz_push, vz_set, drop_size] at *); omega)) | refine KeepA.trans ?_ (by assumption))) (by unfold widthV; (repeat' split) <;> omega)
theorem encode1_ok (v : Int) : PC (XK k) 65 [LI [v]] (tx (encR v)) := by
  have := encode_ok hk [v] (by simp)
  simpa using this
theorem rhexV (v a : Int) (h0 : 0 ≤ v) (h1 : v < 2000000) (ha : 1 ≤ a ∧ a ≤ 16) : PC (XK k) 80 [.c (.int .i64 v), .c (.int .i64 a)] (tx (hexP v.toNat a.toNat)) := by
  obtain ⟨m, rfl⟩ := Int.eq_ofNat_of_zero_le h0
  have := rhex_ok hk _ m a (Nat.le_refl _) (by omega) (by omega) (by omega)
  rwa [hexR_same] at this
theorem hexV (hrep : ∀ d : Nat, d ≤ 16 → PC (XK k) 95 [tx [48], .c (.int .i64 d)] (tx (List.replicate d 48))) (v a : Int) (h0 : 0 ≤ v) (h1 : v < 2000000) (ha : 1 ≤ a ∧ a ≤ 16) : PC (XK k) 66 [.c (.int .i64 v), .c (.int .i64 a)] (tx (hexP v.toNat a.toNat)) := by
  have := hex_ok hk hrep v a (by omega)
  unfold hexI at this
  rw [if_neg (by omega), show min (max a 1) 16 = a by omega] at this
  exact this
theorem rtext_ok (v : Int) : PC (XK k) 53 [.c (.int .i64 v)] (tx (textV v)) := by
  obtain ⟨c1, c2, c3, c4, c5, c6, c7, c8⟩ := cls v
  refine PC_of fun s => ?_
  refine f53_in (hk _ (by decide)) ?_
  have h2 := fun h => hexP_len64 (v.toNat - 1114112) 2 (show v.toNat - 1114112 < 18446744073709551616 from h)
  have h3 := fun h => hexP_len64 v.toNat 4 (show v.toNat < 18446744073709551616 from h)
  have e2 : (v - 1114112).toNat = v.toNat - 1114112 := by omega
  repeat' (first | ((first | apply ga_dec | apply ga_ndec | apply cd_dec | apply cd_ndec | apply gd_dec | apply gd_ndec | apply ga_split | apply cd_split | apply gd_split) <;> intro hc <;> (try (simp -implicitDefEqProofs (maxSteps := 2000000) (disch := first | omega | (simp only [vz_push, vz_set, drop_size]; first | done | omega)) only [push_cast, seval, f53N0, f53N1, f53N2, f53N3, hc, e2])) <;> (try (exfalso; omega))) | refine VC_pure (rof_ok hk v) ?_ | refine VC_pure (rbytes_ok hk v (by omega) (by omega)) ?_ | refine VC_pure (rhexV hk _ 2 (by omega) (by omega) (by omega)) ?_ | refine VC_pure (rhexV hk _ 4 (by omega) (by omega) (by omega)) ?_ | (simp -implicitDefEqProofs (maxSteps := 2000000) (disch := first | omega | (simp only [vz_push, vz_set, drop_size]; first | done | omega)) only [push_cast, seval, f53N0, f53N1, f53N2, f53N3, e2]))
  all_goals refine out_tx (by (repeat first | assumption | exact KeepA.refl _ | apply KeepA.push | refine KeepA.set ?_ (by first | omega | (simp only [vz_push, vz_set, drop_size]; omega) | (have h9 := KeepA.size_le (by assumption); (try simp only [vz_push, vz_set, drop_size] at *); omega)) _ | refine KeepA.drop ?_ (by first | omega | (simp only [vz_push, vz_set, drop_size]; omega) | (have h9 := KeepA.size_le (by assumption); (try simp only [vz_push, vz_set, drop_size] at *); omega)) | refine KeepA.trans ?_ (by assumption))) ?_
  all_goals unfold textV
  all_goals (repeat' split) <;> first | rfl | omega
theorem text_ok (hrep : ∀ d : Nat, d ≤ 16 → PC (XK k) 95 [tx [48], .c (.int .i64 d)] (tx (List.replicate d 48))) (v : Int) : PC (XK k) 26 [.c (.int .i64 v)] (tx (textV v)) := by
  obtain ⟨c1, c2, c3, c4, c5, c6, c7, c8⟩ := cls v
  refine PC_of fun s => ?_
  refine f26_in (hk _ (by decide)) ?_
  have h2 := fun h => hexP_len64 (v.toNat - 1114112) 2 (show v.toNat - 1114112 < 18446744073709551616 from h)
  have h3 := fun h => hexP_len64 v.toNat 4 (show v.toNat < 18446744073709551616 from h)
  have h4 := encR_len4 (v + 64)
  have e2 : (v - 1114112).toNat = v.toNat - 1114112 := by omega
  have e3 : 1 ≤ classOf v → classOf v ≤ 3 → encR v = encV v := fun q _ => by unfold encR; rw [if_pos (c8.1 q)]
  have e4 : classOf v = 4 → encR (v + 64) = [UInt8.ofNat (v.toNat + 64)] := fun q => by
    have hr : right (v + 64) = true := by
      have := c1 q
      unfold right
      simp
      omega
    unfold encR encV
    rw [if_pos hr, if_pos (by have := c1 q; omega), show (v + 64).toNat = v.toNat + 64 by have := c1 q; omega]
  repeat' (first | ((first | apply ga_dec | apply ga_ndec | apply cd_dec | apply cd_ndec | apply gd_dec | apply gd_ndec | apply ga_split | apply cd_split | apply gd_split) <;> intro hc <;> (try (simp -implicitDefEqProofs (maxSteps := 2000000) (disch := first | omega | (simp only [vz_push, vz_set, drop_size]; first | done | omega)) only [push_cast, seval, f26N0, f26N1, f26N2, f26N3, hc, e2])) <;> (try (exfalso; omega))) | refine VC_pure (classOf_ok hk v) ?_ | refine VC_one (gp_eq (by simp only [vz_push])) (encode1_ok hk _) (Rigid.c _) ?_ | refine VC_pure (hexV hk hrep _ 2 (by omega) (by omega) (by omega)) ?_ | refine VC_pure (hexV hk hrep _ 4 (by omega) (by omega) (by omega)) ?_ | (simp -implicitDefEqProofs (maxSteps := 2000000) (disch := first | omega | (simp only [vz_push, vz_set, drop_size]; first | done | omega)) only [push_cast, seval, f26N0, f26N1, f26N2, f26N3, e2]))
  all_goals refine out_tx (by (repeat first | assumption | exact KeepA.refl _ | apply KeepA.push | refine KeepA.set ?_ (by first | omega | (simp only [vz_push, vz_set, drop_size]; omega) | (have h9 := KeepA.size_le (by assumption); (try simp only [vz_push, vz_set, drop_size] at *); omega)) _ | refine KeepA.drop ?_ (by first | omega | (simp only [vz_push, vz_set, drop_size]; omega) | (have h9 := KeepA.size_le (by assumption); (try simp only [vz_push, vz_set, drop_size] at *); omega)) | refine KeepA.trans ?_ (by assumption))) ?_
  all_goals unfold textV
  all_goals (repeat' split) <;> first | rfl | omega | exact e3 (by omega) (by omega) | exact congrArg (94 :: ·) (e4 (by omega))
/-- Five numbers: a cell. -/
abbrev Cl := Int × Int × Int × Int × Int
def eC (c : Cl) : List AV := [.c (.int .i64 c.1), .c (.int .i64 c.2.1), .c (.int .i64 c.2.2.1), .c (.int .i64 c.2.2.2.1), .c (.int .i64 c.2.2.2.2)]
@[reducible] def LC (l : List Cl) : AV := .lst 5 (l.map eC)
theorem cols_ok (hrep : ∀ d : Nat, d ≤ 16 → PC (XK k) 95 [tx [48], .c (.int .i64 d)] (tx (List.replicate d 48))) (v : Int) : PC (XK k) 28 [.c (.int .i64 v)] (.c (.int .i64 (colsV v))) := by
  refine PC_of fun s => ?_
  refine f28_in (hk _ (by decide)) ?_
  unfold colsV
  cases hd : dangerV v
  all_goals repeat' (first | ((first | apply ga_dec | apply ga_ndec | apply cd_dec | apply cd_ndec | apply gd_dec | apply gd_ndec | apply ga_split | apply cd_split | apply gd_split) <;> intro hc <;> (try (simp -implicitDefEqProofs (maxSteps := 2000000) (disch := first | omega | (simp only [vz_push, vz_set, drop_size]; first | done | omega)) only [push_cast, seval, f28N0, f28N1, hc, hd])) <;> (try (exfalso; omega))) | refine VC_pure (danger_ok hk v) ?_ | refine VC_pure (text_ok hk hrep v) ?_ | refine VC_pure (width_ok hk v) ?_ | (simp -implicitDefEqProofs (maxSteps := 2000000) (disch := first | omega | (simp only [vz_push, vz_set, drop_size]; first | done | omega)) only [push_cast, seval, f28N0, f28N1, hd]))
  all_goals exact out_int (by (repeat first | assumption | exact KeepA.refl _ | apply KeepA.push | refine KeepA.set ?_ (by first | omega | (simp only [vz_push, vz_set, drop_size]; omega) | (have h9 := KeepA.size_le (by assumption); (try simp only [vz_push, vz_set, drop_size] at *); omega)) _ | refine KeepA.drop ?_ (by first | omega | (simp only [vz_push, vz_set, drop_size]; omega) | (have h9 := KeepA.size_le (by assumption); (try simp only [vz_push, vz_set, drop_size] at *); omega)) | refine KeepA.trans ?_ (by assumption))) (by simp)
theorem rcols_ok (v : Int) : PC (XK k) 23 [.c (.int .i64 v)] (.c (.int .i64 (colsV v))) := by
  refine PC_of fun s => ?_
  refine f23_in (hk _ (by decide)) ?_
  unfold colsV
  cases hd : dangerV v
  all_goals have hd2 := hd
  all_goals simp only [dangerV, decide_eq_true_eq, decide_eq_false_iff_not] at hd2
  all_goals repeat' (first | ((first | apply ga_dec | apply ga_ndec | apply cd_dec | apply cd_ndec | apply gd_dec | apply gd_ndec | apply ga_split | apply cd_split | apply gd_split) <;> intro hc <;> (try (simp -implicitDefEqProofs (maxSteps := 2000000) (disch := first | omega | (simp only [vz_push, vz_set, drop_size]; first | done | omega)) only [push_cast, seval, f23N0, f23N1, hc, hd])) <;> (try (exfalso; omega))) | refine VC_pure (rof_ok hk v) ?_ | refine VC_pure (rtext_ok hk v) ?_ | refine VC_pure (rwidth_ok hk v) ?_ | (simp -implicitDefEqProofs (maxSteps := 2000000) (disch := first | omega | (simp only [vz_push, vz_set, drop_size]; first | done | omega)) only [push_cast, seval, f23N0, f23N1, hd]))
  all_goals exact out_int (by (repeat first | assumption | exact KeepA.refl _ | apply KeepA.push | refine KeepA.set ?_ (by first | omega | (simp only [vz_push, vz_set, drop_size]; omega) | (have h9 := KeepA.size_le (by assumption); (try simp only [vz_push, vz_set, drop_size] at *); omega)) _ | refine KeepA.drop ?_ (by first | omega | (simp only [vz_push, vz_set, drop_size]; omega) | (have h9 := KeepA.size_le (by assumption); (try simp only [vz_push, vz_set, drop_size] at *); omega)) | refine KeepA.trans ?_ (by assumption))) (by simp)
theorem looks_ok (p : Int × Int) : PC (XK k) 20 [.agg (eS p)] (.c (.int .i64 (looksS p))) := by
  refine PC_of fun s => ?_
  refine f20_in (hk _ (by decide)) ?_
  cases hd : dangerV p.1
  all_goals have hd2 := hd
  all_goals simp only [dangerV, decide_eq_true_eq, decide_eq_false_iff_not] at hd2
  all_goals repeat' (first | ((first | apply ga_dec | apply ga_ndec | apply cd_dec | apply cd_ndec | apply gd_dec | apply gd_ndec | apply ga_split | apply cd_split | apply gd_split) <;> intro hc <;> (try (simp -implicitDefEqProofs (maxSteps := 2000000) (disch := first | omega | (simp only [vz_push, vz_set, drop_size]; first | done | omega)) only [push_cast, seval, f20N0, f20N1, f20N2, hc, eS, hd])) <;> (try (exfalso; omega))) | refine VC_pure (danger_ok hk _) ?_ | refine VC_pure (classOf_ok hk _) ?_ | (simp -implicitDefEqProofs (maxSteps := 2000000) (disch := first | omega | (simp only [vz_push, vz_set, drop_size]; first | done | omega)) only [push_cast, seval, f20N0, f20N1, f20N2, eS, hd]))
  all_goals exact out_int (by (repeat first | assumption | exact KeepA.refl _ | apply KeepA.push | refine KeepA.set ?_ (by first | omega | (simp only [vz_push, vz_set, drop_size]; omega) | (have h9 := KeepA.size_le (by assumption); (try simp only [vz_push, vz_set, drop_size] at *); omega)) _ | refine KeepA.drop ?_ (by first | omega | (simp only [vz_push, vz_set, drop_size]; omega) | (have h9 := KeepA.size_le (by assumption); (try simp only [vz_push, vz_set, drop_size] at *); omega)) | refine KeepA.trans ?_ (by assumption))) (by unfold looksS; rw [hd]; (repeat' split) <;> first | omega | simp_all)
theorem rlooks_ok (p : Int × Int) : PC (XK k) 21 [.agg (eS p)] (.c (.int .i64 (looksS p))) := by
  refine PC_of fun s => ?_
  refine f21_in (hk _ (by decide)) ?_
  cases hd : dangerV p.1
  all_goals have hd2 := hd
  all_goals simp only [dangerV, decide_eq_true_eq, decide_eq_false_iff_not] at hd2
  all_goals repeat' (first | ((first | apply ga_dec | apply ga_ndec | apply cd_dec | apply cd_ndec | apply gd_dec | apply gd_ndec | apply ga_split | apply cd_split | apply gd_split) <;> intro hc <;> (try (simp -implicitDefEqProofs (maxSteps := 2000000) (disch := first | omega | (simp only [vz_push, vz_set, drop_size]; first | done | omega)) only [push_cast, seval, f21N0, f21N1, f21N2, hc, eS])) <;> (try (exfalso; omega))) | refine VC_pure (rof_ok hk _) ?_ | (simp -implicitDefEqProofs (maxSteps := 2000000) (disch := first | omega | (simp only [vz_push, vz_set, drop_size]; first | done | omega)) only [push_cast, seval, f21N0, f21N1, f21N2, eS]))
  all_goals exact out_int (by (repeat first | assumption | exact KeepA.refl _ | apply KeepA.push | refine KeepA.set ?_ (by first | omega | (simp only [vz_push, vz_set, drop_size]; omega) | (have h9 := KeepA.size_le (by assumption); (try simp only [vz_push, vz_set, drop_size] at *); omega)) _ | refine KeepA.drop ?_ (by first | omega | (simp only [vz_push, vz_set, drop_size]; omega) | (have h9 := KeepA.size_le (by assumption); (try simp only [vz_push, vz_set, drop_size] at *); omega)) | refine KeepA.trans ?_ (by assumption))) (by unfold looksS; rw [hd]; (repeat' split) <;> first | omega | simp_all)
end
end Go.Proofs.YtpckldhojfjdmaaDoor.Ab
