/- Lines: what the law LineBack calls. -/
import Derived.Test.YtkmjgpoenljnaaaDoorL9
namespace Go.Proofs.YtkmjgpoenljnaaaDoor.Ab
open Go.Proofs
set_option maxRecDepth 100000
set_option maxHeartbeats 4000000
set_option linter.unusedSimpArgs false
set_option linter.unusedVariables false
set_option linter.unnecessarySimpa false
set_option linter.unusedSectionVars false
/-- The capital of a letter. -/
def capI (v : Int) : Int := if 97 ≤ v ∧ v ≤ 122 then v - 32 else v
def spLo (n : Nat) (a b : Int) : Nat := min (placeI n a) (placeI n b)
def spHi (n : Nat) (a b : Int) : Nat := max (placeI n a) (placeI n b)
section
variable {k : Nat → List Value → Option Value} (hk : ∀ f, Open k f)
include hk
theorem letter_ok (v : Int) : PC (XK k) 27 [.c (.int .i64 v), .c (.bool true)] (.c (.int .i64 (capI v))) := by
  refine PC_of fun s => ?_
  refine f27_in (hk _) ?_
  (try (simp -implicitDefEqProofs (maxSteps := 2000000) (disch := first | omega | (simp only [vz_push, vz_set, drop_size]; done) | (simp only [vz_push, vz_set, drop_size]; omega)) only [push_cast, seval, f27N0, f27N1])) <;> (repeat' ((first | apply ga_dec | apply ga_ndec | apply cd_dec | apply cd_ndec | apply gd_dec | apply gd_ndec | apply ga_split | apply cd_split | apply gd_split) <;> intro hc <;> try (simp -implicitDefEqProofs (maxSteps := 2000000) (disch := first | omega | (simp only [vz_push, vz_set, drop_size]; done) | (simp only [vz_push, vz_set, drop_size]; omega)) only [push_cast, seval, f27N0, f27N1, hc])))
  all_goals exact out_int (by (repeat first | assumption | exact KeepA.refl _ | apply KeepA.push | refine KeepA.set ?_ (by first | omega | (simp only [vz_push, vz_set, drop_size]; omega) | (have h9 := KeepA.size_le (by assumption); (try simp only [vz_push, vz_set, drop_size] at *); omega)) _ | refine KeepA.drop ?_ (by first | omega | (simp only [vz_push, vz_set, drop_size]; omega) | (have h9 := KeepA.size_le (by assumption); (try simp only [vz_push, vz_set, drop_size] at *); omega)) | refine KeepA.trans ?_ (by assumption))) (by unfold capI; split <;> omega)
theorem span_ok (x : Ln) (a b : Int) (hn : x.1.length < 1000000) : PC (XK k) 72 [.agg (eL x), .c (.int .i64 a), .c (.int .i64 b)] (.tup [.c (.int .i64 (spLo x.1.length a b)), .c (.int .i64 (spHi x.1.length a b))]) := by
  refine PC_of fun s => ?_
  refine f72_in (hk _) ?_
  (try (simp -implicitDefEqProofs (maxSteps := 2000000) (disch := first | omega | (simp only [vz_push, vz_set, drop_size]; done) | (simp only [vz_push, vz_set, drop_size]; omega)) only [push_cast, seval, f72N0, eL])) <;> (repeat' ((first | apply ga_dec | apply ga_ndec | apply cd_dec | apply cd_ndec | apply gd_dec | apply gd_ndec | apply ga_split | apply cd_split | apply gd_split) <;> intro hc <;> try (simp -implicitDefEqProofs (maxSteps := 2000000) (disch := first | omega | (simp only [vz_push, vz_set, drop_size]; done) | (simp only [vz_push, vz_set, drop_size]; omega)) only [push_cast, seval, f72N0, hc, eL])))
  refine VC_pure (lplace_ok hk x _) ?_
  (try (simp -implicitDefEqProofs (maxSteps := 2000000) (disch := first | omega | (simp only [vz_push, vz_set, drop_size]; done) | (simp only [vz_push, vz_set, drop_size]; omega)) only [push_cast, seval, f72N0, eL])) <;> (repeat' ((first | apply ga_dec | apply ga_ndec | apply cd_dec | apply cd_ndec | apply gd_dec | apply gd_ndec | apply ga_split | apply cd_split | apply gd_split) <;> intro hc <;> try (simp -implicitDefEqProofs (maxSteps := 2000000) (disch := first | omega | (simp only [vz_push, vz_set, drop_size]; done) | (simp only [vz_push, vz_set, drop_size]; omega)) only [push_cast, seval, f72N0, hc, eL])))
  refine VC_pure (lplace_ok hk x _) ?_
  (try (simp -implicitDefEqProofs (maxSteps := 2000000) (disch := first | omega | (simp only [vz_push, vz_set, drop_size]; done) | (simp only [vz_push, vz_set, drop_size]; omega)) only [push_cast, seval, f72N0, eL])) <;> (repeat' ((first | apply ga_dec | apply ga_ndec | apply cd_dec | apply cd_ndec | apply gd_dec | apply gd_ndec | apply ga_split | apply cd_split | apply gd_split) <;> intro hc <;> try (simp -implicitDefEqProofs (maxSteps := 2000000) (disch := first | omega | (simp only [vz_push, vz_set, drop_size]; done) | (simp only [vz_push, vz_set, drop_size]; omega)) only [push_cast, seval, f72N0, hc, eL])))
  have e1 : (if (placeI x.1.length b : Int) < (placeI x.1.length a : Int) then (placeI x.1.length b : Int) else (placeI x.1.length a : Int)) = (spLo x.1.length a b : Int) := by unfold spLo; split <;> omega
  have e2 : (if (placeI x.1.length b : Int) > (placeI x.1.length a : Int) then (placeI x.1.length b : Int) else (placeI x.1.length a : Int)) = (spHi x.1.length a b : Int) := by unfold spHi; split <;> omega
  rw [e1, e2]
  exact ⟨by (repeat first | assumption | exact KeepA.refl _ | apply KeepA.push | refine KeepA.set ?_ (by first | omega | (simp only [vz_push, vz_set, drop_size]; omega) | (have h9 := KeepA.size_le (by assumption); (try simp only [vz_push, vz_set, drop_size] at *); omega)) _ | refine KeepA.drop ?_ (by first | omega | (simp only [vz_push, vz_set, drop_size]; omega) | (have h9 := KeepA.size_le (by assumption); (try simp only [vz_push, vz_set, drop_size] at *); omega)) | refine KeepA.trans ?_ (by assumption)), Se.tup (Ses.cons (Se.c _) (Ses.cons (Se.c _) Ses.nil))⟩
omit hk in
theorem out_line {X : Prg} {s0 s : VS} {v : AV} {l : List (Int × Int)} {a a' : Int} (h : KeepA s0 s) (hv : Se X (s0.size ≤ ·) (· < s0.size) s v (LS l)) (ha : a = a') : outP X s0 (.agg [LS l, .c (.int .i64 a')]) (.agg [v, .c (.int .i64 a)]) s := by
  subst ha
  exact ⟨h, Se.agg (Ses.cons hv (Ses.cons (Se.c _) Ses.nil))⟩
omit hk in
theorem VC_nil2 {X : Prg} {s : VS} {f sz : Nat} {u : AV} {K : AV → VS → Prop} (h : VC X f [u, .lst sz []] s K) : VC X f [u, .c (.slice none 0 0)] s K := fun d t args' hr ha => h d t args' hr (by
  cases ha with | cons _ _ _ _ h1 h2 =>
  cases h2 with | cons _ _ _ _ h3 h4 =>
  cases h3
  exact .cons _ _ _ _ h1 (.cons _ _ _ _ (.lnil _) h4))
theorem replace_ok (x : Ln) (a b : Int) (l : List (Int × Int)) (hn : x.1.length < 100000) (hl : l.length < 100000) : PC (XK k) 63 [.agg (eL x), .c (.int .i64 a), .c (.int .i64 b), LS l]
    (.agg (eL (x.1.take (spLo x.1.length a b) ++ (l ++ x.1.drop (spHi x.1.length a b)), (spLo x.1.length a b : Nat) + l.length))) := by
  refine PC_of fun s => ?_
  refine f63_in (hk _) ?_
  (try (simp -implicitDefEqProofs (maxSteps := 2000000) (disch := first | omega | (simp only [vz_push, vz_set, drop_size]; done) | (simp only [vz_push, vz_set, drop_size]; omega)) only [push_cast, seval, f63N0, eL])) <;> (repeat' ((first | apply ga_dec | apply ga_ndec | apply cd_dec | apply cd_ndec | apply gd_dec | apply gd_ndec | apply ga_split | apply cd_split | apply gd_split) <;> intro hc <;> try (simp -implicitDefEqProofs (maxSteps := 2000000) (disch := first | omega | (simp only [vz_push, vz_set, drop_size]; done) | (simp only [vz_push, vz_set, drop_size]; omega)) only [push_cast, seval, f63N0, hc, eL])))
  refine VC_pure (span_ok hk x _ _ (by omega)) ?_
  have hlo : spLo x.1.length a b ≤ x.1.length := by have := placeI_le x.1.length a; unfold spLo; omega
  have hhi : spHi x.1.length a b ≤ x.1.length := by have := placeI_le x.1.length a; have := placeI_le x.1.length b; unfold spHi; omega
  generalize spLo x.1.length a b = lo at *
  generalize spHi x.1.length a b = hi at *
  have hT : (x.1.drop hi).take (x.1.length - hi) = x.1.drop hi := List.take_of_length_le (by rw [List.length_drop]; omega)
  (try (simp -implicitDefEqProofs (maxSteps := 2000000) (disch := first | omega | (simp only [vz_push, vz_set, drop_size]; done) | (simp only [vz_push, vz_set, drop_size]; omega)) only [push_cast, seval, f63N0, eL, hT])) <;> (repeat' ((first | apply ga_dec | apply ga_ndec | apply cd_dec | apply cd_ndec | apply gd_dec | apply gd_ndec | apply ga_split | apply cd_split | apply gd_split) <;> intro hc <;> try (simp -implicitDefEqProofs (maxSteps := 2000000) (disch := first | omega | (simp only [vz_push, vz_set, drop_size]; done) | (simp only [vz_push, vz_set, drop_size]; omega)) only [push_cast, seval, f63N0, hc, eL, hT])))
  refine VC_row (gp_eq (by simp only [vz_push])) rfl (FirmR.cons (Firm.LS _) (FirmR.cons (Firm.LS _) (FirmR.cons (Firm.LS _) FirmR.nil))) ?_
  refine VC_mono (concat_gr hk [x.1.take lo, l, x.1.drop hi] (by simp) (by simp; omega) _) ?_
  simp only [List.flatten_cons, List.flatten_nil, List.append_nil]
  generalize x.1.take lo ++ (l ++ x.1.drop hi) = fl
  intro v s1 ⟨hkp, hv⟩
  have hg2 : s1.get (s.size + 1) = some (.own ⟨[.c (.slice none 0 0), .c (.int .i64 0)], 24, 0, 0, false⟩) := hkp.get (by (simp -implicitDefEqProofs (disch := first | omega | (simp only [vz_push, vz_set, drop_size]; done) | (simp only [vz_push, vz_set, drop_size]; omega)) only [drop_ne, gp_ne, gp_eq, gs_ne, gs_eq]))
  have hsz : s.size + 3 ≤ s1.size := hkp.1
  have hks : KeepA s s1 := by
    refine KeepA.trans ?_ hkp
    exact KeepA.drop (by (repeat first | assumption | exact KeepA.refl _ | apply KeepA.push | refine KeepA.set ?_ (by first | omega | (simp only [vz_push, vz_set, drop_size]; omega) | (have h9 := KeepA.size_le (by assumption); (try simp only [vz_push, vz_set, drop_size] at *); omega)) _ | refine KeepA.drop ?_ (by first | omega | (simp only [vz_push, vz_set, drop_size]; omega) | (have h9 := KeepA.size_le (by assumption); (try simp only [vz_push, vz_set, drop_size] at *); omega)) | refine KeepA.trans ?_ (by assumption))) (by show s.size ≤ s.size + 2; omega)
  clear hkp
  rcases hv with ⟨rfl, h0⟩ | ⟨b, rfl, hgb, hb⟩
  · (try (simp -implicitDefEqProofs (maxSteps := 2000000) (disch := first | omega | (simp only [vz_push, vz_set, drop_size]; done) | (simp only [vz_push, vz_set, drop_size]; omega)) only [push_cast, seval, f63N0, hg2])) <;> (repeat' ((first | apply ga_dec | apply ga_ndec | apply cd_dec | apply cd_ndec | apply gd_dec | apply gd_ndec | apply ga_split | apply cd_split | apply gd_split) <;> intro hc <;> try (simp -implicitDefEqProofs (maxSteps := 2000000) (disch := first | omega | (simp only [vz_push, vz_set, drop_size]; done) | (simp only [vz_push, vz_set, drop_size]; omega)) only [push_cast, seval, f63N0, hc, hg2])))
    refine out_line (by (repeat first | assumption | exact KeepA.refl _ | apply KeepA.push | refine KeepA.set ?_ (by first | omega | (simp only [vz_push, vz_set, drop_size]; omega) | (have h9 := KeepA.size_le (by assumption); (try simp only [vz_push, vz_set, drop_size] at *); omega)) _ | refine KeepA.drop ?_ (by first | omega | (simp only [vz_push, vz_set, drop_size]; omega) | (have h9 := KeepA.size_le (by assumption); (try simp only [vz_push, vz_set, drop_size] at *); omega)) | refine KeepA.trans ?_ (by assumption))) ?_ rfl
    rw [h0]
    exact Se.nil _
  · have hb3 : s.size + 3 ≤ b := hb
    (try (simp -implicitDefEqProofs (maxSteps := 2000000) (disch := first | omega | (simp only [vz_push, vz_set, drop_size]; done) | (simp only [vz_push, vz_set, drop_size]; omega)) only [push_cast, seval, f63N0, hg2])) <;> (repeat' ((first | apply ga_dec | apply ga_ndec | apply cd_dec | apply cd_ndec | apply gd_dec | apply gd_ndec | apply ga_split | apply cd_split | apply gd_split) <;> intro hc <;> try (simp -implicitDefEqProofs (maxSteps := 2000000) (disch := first | omega | (simp only [vz_push, vz_set, drop_size]; done) | (simp only [vz_push, vz_set, drop_size]; omega)) only [push_cast, seval, f63N0, hc, hg2])))
    refine out_line (by (repeat first | assumption | exact KeepA.refl _ | apply KeepA.push | refine KeepA.set ?_ (by first | omega | (simp only [vz_push, vz_set, drop_size]; omega) | (have h9 := KeepA.size_le (by assumption); (try simp only [vz_push, vz_set, drop_size] at *); omega)) _ | refine KeepA.drop ?_ (by first | omega | (simp only [vz_push, vz_set, drop_size]; omega) | (have h9 := KeepA.size_le (by assumption); (try simp only [vz_push, vz_set, drop_size] at *); omega)) | refine KeepA.trans ?_ (by assumption))) (se_LS (e := 39) ?_ (by omega) rfl) rfl
    refine Eq.trans ?_ hgb
    (simp -implicitDefEqProofs (disch := first | omega | (simp only [vz_push, vz_set, drop_size]; done) | (simp only [vz_push, vz_set, drop_size]; omega)) only [drop_ne, gp_ne, gp_eq, gs_ne, gs_eq])
theorem insert_ok (x : Ln) (l : List (Int × Int)) (hn : x.1.length < 100000) (hl : l.length < 100000) : PC (XK k) 25 [.agg (eL x), LS l]
    (.agg (eL (x.1.take (placeI x.1.length x.2) ++ (l ++ x.1.drop (placeI x.1.length x.2)), (placeI x.1.length x.2 : Nat) + l.length))) := by
  refine PC_of fun s => ?_
  refine f25_in (hk _) ?_
  (try (simp -implicitDefEqProofs (maxSteps := 2000000) (disch := first | omega | (simp only [vz_push, vz_set, drop_size]; done) | (simp only [vz_push, vz_set, drop_size]; omega)) only [push_cast, seval, f25N0, eL])) <;> (repeat' ((first | apply ga_dec | apply ga_ndec | apply cd_dec | apply cd_ndec | apply gd_dec | apply gd_ndec | apply ga_split | apply cd_split | apply gd_split) <;> intro hc <;> try (simp -implicitDefEqProofs (maxSteps := 2000000) (disch := first | omega | (simp only [vz_push, vz_set, drop_size]; done) | (simp only [vz_push, vz_set, drop_size]; omega)) only [push_cast, seval, f25N0, hc, eL])))
  refine VC_pure (replace_ok hk x _ _ l hn hl) ?_
  have e1 : spLo x.1.length x.2 x.2 = placeI x.1.length x.2 := by unfold spLo; omega
  have e2 : spHi x.1.length x.2 x.2 = placeI x.1.length x.2 := by unfold spHi; omega
  rw [e1, e2]
  (try (simp -implicitDefEqProofs (maxSteps := 2000000) (disch := first | omega | (simp only [vz_push, vz_set, drop_size]; done) | (simp only [vz_push, vz_set, drop_size]; omega)) only [push_cast, seval, f25N0, eL])) <;> (repeat' ((first | apply ga_dec | apply ga_ndec | apply cd_dec | apply cd_ndec | apply gd_dec | apply gd_ndec | apply ga_split | apply cd_split | apply gd_split) <;> intro hc <;> try (simp -implicitDefEqProofs (maxSteps := 2000000) (disch := first | omega | (simp only [vz_push, vz_set, drop_size]; done) | (simp only [vz_push, vz_set, drop_size]; omega)) only [push_cast, seval, f25N0, hc, eL])))
  refine out_line (by (repeat first | assumption | exact KeepA.refl _ | apply KeepA.push | refine KeepA.set ?_ (by first | omega | (simp only [vz_push, vz_set, drop_size]; omega) | (have h9 := KeepA.size_le (by assumption); (try simp only [vz_push, vz_set, drop_size] at *); omega)) _ | refine KeepA.drop ?_ (by first | omega | (simp only [vz_push, vz_set, drop_size]; omega) | (have h9 := KeepA.size_le (by assumption); (try simp only [vz_push, vz_set, drop_size] at *); omega)) | refine KeepA.trans ?_ (by assumption))) (Se.firm (Firm.LS _)) rfl
def cutAt (n : Nat) (x a b : Int) : Int := if (spHi n a b : Int) < placeI n x then placeI n x - (spHi n a b - spLo n a b) else if (spLo n a b : Int) < placeI n x then spLo n a b else placeI n x
omit hk in
theorem out_cut {X : Prg} {s0 s : VS} {v u : AV} {l m : List (Int × Int)} {a a' : Int} (h : KeepA s0 s) (hv : Se X (s0.size ≤ ·) (· < s0.size) s v (LS l)) (hu : Se X (s0.size ≤ ·) (· < s0.size) s u (LS m)) (ha : a = a') : outP X s0 (.tup [.agg [LS l, .c (.int .i64 a')], LS m]) (.tup [.agg [v, .c (.int .i64 a)], u]) s := by
  subst ha
  exact ⟨h, Se.tup (Ses.cons (Se.agg (Ses.cons hv (Ses.cons (Se.c _) Ses.nil))) (Ses.cons hu Ses.nil))⟩
/-- What concat answers: signs of its own, or nil. -/
def Own1 (n : Nat) (s : VS) (v : AV) (l : List (Int × Int)) : Prop := (v = .c (.slice none 0 0) ∧ l = []) ∨ ∃ b, v = .sl ⟨b, 0, none⟩ l.length (capO l.length) ∧ s.get b = some (.own ⟨(l.map eS).flatten, 39, 0, 0, false⟩) ∧ n ≤ b
omit hk in
theorem Own1.keep {n : Nat} {s s' : VS} {v : AV} {l : List (Int × Int)} (h : Own1 n s v l) (k : KeepA s s') : Own1 n s' v l := by
  rcases h with h | ⟨b, h1, h2, h3⟩
  · exact .inl h
  · exact .inr ⟨b, h1, k.get h2, h3⟩
omit hk in
theorem Own1.set {n c : Nat} {s : VS} {v : AV} {l : List (Int × Int)} (h : Own1 n s v l) (hc : c < n) (o : VO) : Own1 n (s.set c o) v l := by
  rcases h with h | ⟨b, h1, h2, h3⟩
  · exact .inl h
  · exact .inr ⟨b, h1, (gs_ne (by omega)).trans h2, h3⟩
omit hk in
theorem Own1.se {X : Prg} {n : Nat} {s0 s : VS} {v : AV} {l : List (Int × Int)} (h : Own1 n s v l) (hn : s0.size ≤ n) : Se X (s0.size ≤ ·) (· < s0.size) s v (LS l) := by
  rcases h with ⟨rfl, rfl⟩ | ⟨b, rfl, h2, h3⟩
  · exact Se.nil _
  · exact se_LS h2 (by omega) rfl
theorem cut_ok (x : Ln) (a b : Int) (hn : x.1.length < 100000) : PC (XK k) 22 [.agg (eL x), .c (.int .i64 a), .c (.int .i64 b)]
    (.tup [.agg (eL (x.1.take (spLo x.1.length a b) ++ x.1.drop (spHi x.1.length a b), cutAt x.1.length x.2 a b)), LS ((x.1.drop (spLo x.1.length a b)).take (spHi x.1.length a b - spLo x.1.length a b))]) := by
  refine PC_of fun s => ?_
  refine f22_in (hk _) ?_
  (try (simp -implicitDefEqProofs (maxSteps := 2000000) (disch := first | omega | (simp only [vz_push, vz_set, drop_size]; done) | (simp only [vz_push, vz_set, drop_size]; omega)) only [push_cast, seval, f22N0, f22N1, eL])) <;> (repeat' ((first | apply ga_dec | apply ga_ndec | apply cd_dec | apply cd_ndec | apply gd_dec | apply gd_ndec | apply ga_split | apply cd_split | apply gd_split) <;> intro hc <;> try (simp -implicitDefEqProofs (maxSteps := 2000000) (disch := first | omega | (simp only [vz_push, vz_set, drop_size]; done) | (simp only [vz_push, vz_set, drop_size]; omega)) only [push_cast, seval, f22N0, f22N1, hc, eL])))
  refine VC_pure (span_ok hk x _ _ (by omega)) ?_
  have hlo : spLo x.1.length a b ≤ x.1.length := by have := placeI_le x.1.length a; unfold spLo; omega
  have hhi : spHi x.1.length a b ≤ x.1.length := by have := placeI_le x.1.length a; have := placeI_le x.1.length b; unfold spHi; omega
  have hlh : spLo x.1.length a b ≤ spHi x.1.length a b := by unfold spLo spHi; omega
  unfold cutAt
  generalize spLo x.1.length a b = lo at *
  generalize spHi x.1.length a b = hi at *
  have hT : (x.1.drop hi).take (x.1.length - hi) = x.1.drop hi := List.take_of_length_le (by rw [List.length_drop]; omega)
  (try (simp -implicitDefEqProofs (maxSteps := 2000000) (disch := first | omega | (simp only [vz_push, vz_set, drop_size]; done) | (simp only [vz_push, vz_set, drop_size]; omega)) only [push_cast, seval, f22N0, f22N1, eL])) <;> (repeat' ((first | apply ga_dec | apply ga_ndec | apply cd_dec | apply cd_ndec | apply gd_dec | apply gd_ndec | apply ga_split | apply cd_split | apply gd_split) <;> intro hc <;> try (simp -implicitDefEqProofs (maxSteps := 2000000) (disch := first | omega | (simp only [vz_push, vz_set, drop_size]; done) | (simp only [vz_push, vz_set, drop_size]; omega)) only [push_cast, seval, f22N0, f22N1, hc, eL])))
  refine VC_pure (lplace_ok hk x _) ?_
  have hpl := placeI_le x.1.length x.2
  generalize placeI x.1.length x.2 = p at *
  (try (simp -implicitDefEqProofs (maxSteps := 2000000) (disch := first | omega | (simp only [vz_push, vz_set, drop_size]; done) | (simp only [vz_push, vz_set, drop_size]; omega)) only [push_cast, seval, (@vS (XK k) f22c1 f22c2 f22c0 rfl), (@vO (XK k) f22c1 _ _ _ rfl (by kernel_rfl)), (@vS (XK k) f22c3 f22c4 f22c2 rfl), (@vO (XK k) f22c3 _ _ _ rfl (by kernel_rfl)), (@vS (XK k) f22c5 f22c6 f22c4 rfl), (@vO (XK k) f22c5 _ _ _ rfl (by kernel_rfl)), (@vS (XK k) f22c7 f22c16 f22c6 rfl), (@vS (XK k) f22c8 f22c9 f22c7 rfl), (@vO (XK k) f22c8 _ _ _ rfl (by kernel_rfl)), (@vC (XK k) f22c10 f22c11 f22c9 (.tmp 24) rfl), (@vO (XK k) f22c10 _ _ _ rfl (by kernel_rfl)), (@vS (XK k) f22c12 f22c13 f22c11 rfl), (@vO (XK k) f22c12 _ _ _ rfl (by kernel_rfl)), (@vC (XK k) f22c14 f22c15 f22c13 (.tmp 32) rfl), (@vO (XK k) f22c14 _ _ _ rfl (by kernel_rfl)), (@vK (XK k) f22c15 rfl), (@vS (XK k) f22c17 f22c18 f22c16 rfl), (@vR (XK k) f22c18 rfl), eL])) <;> (repeat' ((first | apply ga_dec | apply ga_ndec | apply cd_dec | apply cd_ndec | apply gd_dec | apply gd_ndec | apply ga_split | apply cd_split | apply gd_split) <;> intro hc <;> try (simp -implicitDefEqProofs (maxSteps := 2000000) (disch := first | omega | (simp only [vz_push, vz_set, drop_size]; done) | (simp only [vz_push, vz_set, drop_size]; omega)) only [push_cast, seval, (@vS (XK k) f22c1 f22c2 f22c0 rfl), (@vO (XK k) f22c1 _ _ _ rfl (by kernel_rfl)), (@vS (XK k) f22c3 f22c4 f22c2 rfl), (@vO (XK k) f22c3 _ _ _ rfl (by kernel_rfl)), (@vS (XK k) f22c5 f22c6 f22c4 rfl), (@vO (XK k) f22c5 _ _ _ rfl (by kernel_rfl)), (@vS (XK k) f22c7 f22c16 f22c6 rfl), (@vS (XK k) f22c8 f22c9 f22c7 rfl), (@vO (XK k) f22c8 _ _ _ rfl (by kernel_rfl)), (@vC (XK k) f22c10 f22c11 f22c9 (.tmp 24) rfl), (@vO (XK k) f22c10 _ _ _ rfl (by kernel_rfl)), (@vS (XK k) f22c12 f22c13 f22c11 rfl), (@vO (XK k) f22c12 _ _ _ rfl (by kernel_rfl)), (@vC (XK k) f22c14 f22c15 f22c13 (.tmp 32) rfl), (@vO (XK k) f22c14 _ _ _ rfl (by kernel_rfl)), (@vK (XK k) f22c15 rfl), (@vS (XK k) f22c17 f22c18 f22c16 rfl), (@vR (XK k) f22c18 rfl), hc, eL])))
  all_goals
    (try (simp -implicitDefEqProofs (maxSteps := 2000000) (disch := first | omega | (simp only [vz_push, vz_set, drop_size]; done) | (simp only [vz_push, vz_set, drop_size]; omega)) only [push_cast, seval, f22N0, f22N1, eL, hT])) <;> (repeat' ((first | apply ga_dec | apply ga_ndec | apply cd_dec | apply cd_ndec | apply gd_dec | apply gd_ndec | apply ga_split | apply cd_split | apply gd_split) <;> intro hc <;> try (simp -implicitDefEqProofs (maxSteps := 2000000) (disch := first | omega | (simp only [vz_push, vz_set, drop_size]; done) | (simp only [vz_push, vz_set, drop_size]; omega)) only [push_cast, seval, f22N0, f22N1, hc, eL, hT])))
    refine VC_row (gp_eq (by simp only [vz_push])) rfl (FirmR.cons (Firm.LS _) (FirmR.cons (Firm.LS _) FirmR.nil)) ?_
    refine VC_mono (concat_gr hk [x.1.take lo, x.1.drop hi] (by simp) (by simp; omega) _) ?_
    simp only [List.flatten_cons, List.flatten_nil, List.append_nil]
    generalize x.1.take lo ++ x.1.drop hi = fl
    intro v s1 ⟨hkp, hv⟩
    have hg1 : s1.get s.size = some (.own ⟨[LS x.1, .c (.int .i64 x.2)], 24, 0, 0, false⟩) := hkp.get (by (simp -implicitDefEqProofs (disch := first | omega | (simp only [vz_push, vz_set, drop_size]; done) | (simp only [vz_push, vz_set, drop_size]; omega)) only [drop_ne, gp_ne, gp_eq, gs_ne, gs_eq]))
    have hv1 : s1.ver s.size = s.ver s.size := (hkp.2 s.size (by show s.size < s.size + 3; omega)).2
    have hg2 : s1.get (s.size + 1) = some (.own ⟨[.c (.slice none 0 0), .c (.int .i64 0)], 24, 0, 0, false⟩) := hkp.get (by (simp -implicitDefEqProofs (disch := first | omega | (simp only [vz_push, vz_set, drop_size]; done) | (simp only [vz_push, vz_set, drop_size]; omega)) only [drop_ne, gp_ne, gp_eq, gs_ne, gs_eq]))
    have hsz : s.size + 3 ≤ s1.size := hkp.1
    have hks : KeepA s s1 := by
      refine KeepA.trans ?_ hkp
      exact KeepA.drop (by (repeat first | assumption | exact KeepA.refl _ | apply KeepA.push | refine KeepA.set ?_ (by first | omega | (simp only [vz_push, vz_set, drop_size]; omega) | (have h9 := KeepA.size_le (by assumption); (try simp only [vz_push, vz_set, drop_size] at *); omega)) _ | refine KeepA.drop ?_ (by first | omega | (simp only [vz_push, vz_set, drop_size]; omega) | (have h9 := KeepA.size_le (by assumption); (try simp only [vz_push, vz_set, drop_size] at *); omega)) | refine KeepA.trans ?_ (by assumption))) (by show s.size ≤ s.size + 2; omega)
    have hO : Own1 (s.size + 3) s1 v fl := by
      rcases hv with ⟨h1, h2⟩ | ⟨b, h1, h2, h3⟩
      · exact .inl ⟨h1, h2⟩
      · exact .inr ⟨b, h1, h2, h3⟩
    clear hkp
    rcases hv with ⟨rfl, _⟩ | ⟨b, rfl, _, _⟩
    all_goals
      (try (simp -implicitDefEqProofs (maxSteps := 2000000) (disch := first | omega | (simp only [vz_push, vz_set, drop_size]; done) | (simp only [vz_push, vz_set, drop_size]; omega)) only [push_cast, seval, f22N0, f22N1, hg1, hv1, hg2, hsz])) <;> (repeat' ((first | apply ga_dec | apply ga_ndec | apply cd_dec | apply cd_ndec | apply gd_dec | apply gd_ndec | apply ga_split | apply cd_split | apply gd_split) <;> intro hc <;> try (simp -implicitDefEqProofs (maxSteps := 2000000) (disch := first | omega | (simp only [vz_push, vz_set, drop_size]; done) | (simp only [vz_push, vz_set, drop_size]; omega)) only [push_cast, seval, f22N0, f22N1, hc, hg1, hv1, hg2, hsz])))
      refine VC_row (gp_eq (by simp only [vz_push])) rfl (FirmR.cons (Firm.LS _) FirmR.nil) ?_
      refine VC_mono (concat_gr hk [(x.1.drop lo).take (hi - lo)] (by simp) (by simp; omega) _) ?_
      simp only [List.flatten_cons, List.flatten_nil, List.append_nil]
      generalize (x.1.drop lo).take (hi - lo) = ml
      intro v2 s2 ⟨hkp, hv2⟩
      have hg2' : s2.get (s.size + 1) = some (.own ⟨[.c (.slice none 0 0), .c (.int .i64 0)], 24, 0, 0, false⟩) := hkp.get (Eq.trans (by (simp -implicitDefEqProofs (disch := first | omega | (simp only [vz_push, vz_set, drop_size]; done) | (simp only [vz_push, vz_set, drop_size]; omega)) only [drop_ne, gp_ne, gp_eq, gs_ne, gs_eq])) hg2)
      have hks1 : KeepA s1 s2 := by
        refine KeepA.trans ?_ hkp
        exact KeepA.drop (by (repeat first | assumption | exact KeepA.refl _ | apply KeepA.push | refine KeepA.set ?_ (by first | omega | (simp only [vz_push, vz_set, drop_size]; omega) | (have h9 := KeepA.size_le (by assumption); (try simp only [vz_push, vz_set, drop_size] at *); omega)) _ | refine KeepA.drop ?_ (by first | omega | (simp only [vz_push, vz_set, drop_size]; omega) | (have h9 := KeepA.size_le (by assumption); (try simp only [vz_push, vz_set, drop_size] at *); omega)) | refine KeepA.trans ?_ (by assumption))) (by show s1.size ≤ s1.size; omega)
      have hks2 : KeepA s s2 := hks.trans hks1
      have hsz2 : s.size + 3 ≤ s2.size := Nat.le_trans hsz hks1.1
      have hO2 : Own1 (s.size + 3) s2 v2 ml := by
        rcases hv2 with ⟨h1, h2⟩ | ⟨b, h1, h2, h3⟩
        · exact .inl ⟨h1, h2⟩
        · exact .inr ⟨b, h1, h2, Nat.le_trans (by show s.size + 3 ≤ s1.size + 1; omega) h3⟩
      clear hkp
      rcases hv2 with ⟨rfl, _⟩ | ⟨b2, rfl, _, _⟩
      all_goals
        (try (simp -implicitDefEqProofs (maxSteps := 2000000) (disch := first | omega | (simp only [vz_push, vz_set, drop_size]; done) | (simp only [vz_push, vz_set, drop_size]; omega)) only [push_cast, seval, f22N0, f22N1, hg2'])) <;> (repeat' ((first | apply ga_dec | apply ga_ndec | apply cd_dec | apply cd_ndec | apply gd_dec | apply gd_ndec | apply ga_split | apply cd_split | apply gd_split) <;> intro hc <;> try (simp -implicitDefEqProofs (maxSteps := 2000000) (disch := first | omega | (simp only [vz_push, vz_set, drop_size]; done) | (simp only [vz_push, vz_set, drop_size]; omega)) only [push_cast, seval, f22N0, f22N1, hc, hg2'])))
        refine out_cut (by (repeat first | assumption | exact KeepA.refl _ | apply KeepA.push | refine KeepA.set ?_ (by first | omega | (simp only [vz_push, vz_set, drop_size]; omega) | (have h9 := KeepA.size_le (by assumption); (try simp only [vz_push, vz_set, drop_size] at *); omega)) _ | refine KeepA.drop ?_ (by first | omega | (simp only [vz_push, vz_set, drop_size]; omega) | (have h9 := KeepA.size_le (by assumption); (try simp only [vz_push, vz_set, drop_size] at *); omega)) | refine KeepA.trans ?_ (by assumption))) (((hO.keep hks1).set (by omega) _).se (by omega)) ((hO2.set (by omega) _).se (by omega)) ?_
        (repeat' split) <;> omega
end
end Go.Proofs.YtkmjgpoenljnaaaDoor.Ab
