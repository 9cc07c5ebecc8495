/- sign.Runs and the law SignRuns. -/
import Derived.Test.YtndedkpcfjnecaaU
namespace Go.Proofs.Ytndedkpcfjnecaa.Ab
open Go.Proofs
set_option maxRecDepth 100000
set_option maxHeartbeats 1000000
set_option linter.unusedSimpArgs false
set_option linter.unusedVariables false

def encS (p : Int × Int) : List Value := [.int .i64 p.1, .int .i64 p.2]
def encR (p : Int × Nat × Nat) : List Value := [.int .i64 p.1, .int .i64 p.2.1, .int .i64 p.2.2]
def lab (l : List (Int × Int)) (i : Nat) : Int := (l.getD i (0, 0)).2
theorem rd_lab {s : St} {a : Addr} {l : List (Int × Int)} (h : s.rd a (l.length * 2) = some (l.flatMap encS)) (i : Nat) (hi : i < l.length) : s.rd (Addr.fwd a (i * 2 + 1)) 1 = some [.int .i64 (lab l i)] := by
  refine rd_at h ?_
  have := flatMap_get encS 2 (fun _ => rfl) l i 1 l[i] (List.getElem?_eq_getElem hi) (by omega)
  rw [this]
  simp [encS, lab, hi]

/-- The runs up to a place: they part what lies ahead of it, each of one label, none beside one of the same. -/
def Parts (l : List (Int × Int)) : List (Int × Nat × Nat) → Nat → Prop
  | [], n => n = 0
  | r :: R, n => Parts l R r.2.1 ∧ r.2.2 = n ∧ r.2.1 < n ∧ (∀ j, r.2.1 ≤ j → j < n → lab l j = r.1) ∧ (∀ q R', R = q :: R' → q.1 ≠ r.1)
structure Inv (l : List (Int × Int)) (i frm : Nat) (R : List (Int × Nat × Nat)) : Prop where
  parts : Parts l R.reverse frm
  le : frm ≤ i
  same : ∀ j, frm ≤ j → j ≤ i → i < l.length → lab l j = lab l i
  ne : ∀ q R', R.reverse = q :: R' → i < l.length → q.1 ≠ lab l i
  fin : i = l.length → frm = i

theorem inv_push {l : List (Int × Int)} {i frm : Nat} {R : List (Int × Nat × Nat)} (h : Inv l i frm R) (hi : i < l.length) (hc : i + 1 = l.length ∨ lab l (i + 1) ≠ lab l i) : Inv l (i + 1) (i + 1) (R ++ [(lab l i, frm, i + 1)]) where
  parts := by
    rw [List.reverse_append]
    refine ⟨h.parts, rfl, by have := h.le; show frm < i + 1; omega, fun j h1 h2 => h.same j h1 (by omega) hi, fun q R' hq => h.ne q R' hq hi⟩
  le := Nat.le_refl _
  same := fun j h1 h2 _ => by rw [show j = i + 1 by omega]
  ne := fun q R' hq hlt => by
    rw [List.reverse_append] at hq
    simp only [List.reverse_cons, List.reverse_nil, List.nil_append, List.cons_append, List.cons.injEq] at hq
    rw [← hq.1]
    rcases hc with hc | hc
    · omega
    · exact fun e => hc e.symm
  fin := fun _ => rfl
theorem inv_keep {l : List (Int × Int)} {i frm : Nat} {R : List (Int × Nat × Nat)} (h : Inv l i frm R) (hi : i + 1 < l.length) (hc : ¬ (i + 1 = l.length ∨ lab l (i + 1) ≠ lab l i)) : Inv l (i + 1) frm R where
  parts := h.parts
  le := by have := h.le; omega
  same := fun j h1 h2 _ => by
    have e : lab l (i + 1) = lab l i := by
      by_cases e : lab l (i + 1) = lab l i
      · exact e
      · exact (hc (.inr e)).elim
    by_cases hj : j = i + 1
    · rw [hj]
    · rw [e]; exact h.same j h1 (by omega) (by omega)
  ne := fun q R' hq _ => by
    have e : lab l (i + 1) = lab l i := by
      by_cases e : lab l (i + 1) = lab l i
      · exact e
      · exact (hc (.inr e)).elim
    rw [e]; exact h.ne q R' hq (by omega)
  fin := fun e => (hc (.inl e)).elim
noncomputable def B12 : Code := codeAt (bodyOf Try.f12) [1,1,1,0,1,0,0]
noncomputable def r6 : Code := codeAt B12 [1,1,0,0,1,0]
theorem reg6 (l : List (Int × Int)) (ρ : Env) (s : St) (a : Addr) (cap : Nat) (i : Nat) (Q : Xit → Env → St → Prop) (h0 : ρ.get 0 = .slice (some a) l.length cap) (h5 : ρ.get 5 = .int .i64 i) (hi : i < l.length) (hl : l.length ≤ 100)
    (hr : s.rd a (l.length * 2) = some (l.flatMap encS))
    (h : ∀ ρ' : Env, ρ'.get 29 = .bool (decide (i + 1 = l.length ∨ lab l (i + 1) ≠ lab l i)) → (∀ t, t < 11 → ρ'.get t = ρ.get t) → Q .normal ρ' s) : W X r6 ρ s Q := by
  have e : r6 = r6 := rfl
  conv at e => rhs; whnf
  conv => arg 2; rw [e]
  clear e
  refine W_region (by kernel_rfl) (fun K hK => WS_run _ _ _ ?_)
  have q := rd_lab hr
  by_cases hc : (i : Int) + 1 = l.length
  · simp -implicitDefEqProofs (disch := omega) only [List.map_cons, List.map_nil, strip1, List.getElem?_toArray, List.getElem?_cons_succ, List.getElem?_cons_zero, Option.bind_some, runP_nil, runP_always, runP_never, runP_on, guardP_true, guardP_false, contP_some, callP_some, afterP_done, afterP_call, P_buildSlice, evParts, retP_some, stP_some, newP_some, pickP_true, pickP_false, P_move, P_assign, P_pick, P_bin, P_un, P_load, P_store, P_nilCheck, P_fieldAddr, P_field, P_indexAddr, P_index, P_slice, P_build, P_convert, P_extract, P_builtin, P_alloc, P_box, P_makeFunc, P_lookup, P_mapUpdate, P_call, P_buildSlice, evParts, put_some, put_none, evo_tmp, evo_const, evo_func, isB_bool, boolOf_bool, tupOf_tuple, funOf_func, of_get, Env.get_set, bin_add, bin_sub, bin_mul, bin_quo, bin_rem, bin_lss, bin_leq, bin_gtr, bin_geq, bin_eql, bin_neq, un_not, un_neg, builtinv, Option.map_some, Option.map_none, indexAddrv, fieldAddrv, ↓reduceIte, reduceCtorEq, Nat.reduceEqDiff, Nat.reduceAdd, Nat.reduceMul, Nat.add_zero, eq_self, Bool.false_eq_true, Bool.true_eq_false, Bool.not_true, Bool.not_false, beq_self_eq_true, Bool.true_beq, Bool.false_beq, beq_true, beq_false, and_true, true_and, ne_eq, not_false_eq_true, not_true_eq_false, List.cons_append, List.nil_append, List.append_nil, Option.some.injEq, fwd_fwd, decide_true, decide_false, h0, h5, ty22, und22, ty29, und29, ty3, wrap64, hc, lenv]
    subst hK
    refine h _ ?_ (fun t ht => ?_)
    · simp only [Env.get_set]
      simp; omega
    · simp (disch := omega) only [Env.get_set, if_neg]
  · simp -implicitDefEqProofs (disch := omega) only [List.map_cons, List.map_nil, strip1, List.getElem?_toArray, List.getElem?_cons_succ, List.getElem?_cons_zero, Option.bind_some, runP_nil, runP_always, runP_never, runP_on, guardP_true, guardP_false, contP_some, callP_some, afterP_done, afterP_call, P_buildSlice, evParts, retP_some, stP_some, newP_some, pickP_true, pickP_false, P_move, P_assign, P_pick, P_bin, P_un, P_load, P_store, P_nilCheck, P_fieldAddr, P_field, P_indexAddr, P_index, P_slice, P_build, P_convert, P_extract, P_builtin, P_alloc, P_box, P_makeFunc, P_lookup, P_mapUpdate, P_call, P_buildSlice, evParts, put_some, put_none, evo_tmp, evo_const, evo_func, isB_bool, boolOf_bool, tupOf_tuple, funOf_func, of_get, Env.get_set, bin_add, bin_sub, bin_mul, bin_quo, bin_rem, bin_lss, bin_leq, bin_gtr, bin_geq, bin_eql, bin_neq, un_not, un_neg, builtinv, Option.map_some, Option.map_none, indexAddrv, fieldAddrv, ↓reduceIte, reduceCtorEq, Nat.reduceEqDiff, Nat.reduceAdd, Nat.reduceMul, Nat.add_zero, eq_self, Bool.false_eq_true, Bool.true_eq_false, Bool.not_true, Bool.not_false, beq_self_eq_true, Bool.true_beq, Bool.false_beq, beq_true, beq_false, and_true, true_and, ne_eq, not_false_eq_true, not_true_eq_false, List.cons_append, List.nil_append, List.append_nil, Option.some.injEq, fwd_fwd, decide_true, decide_false, h0, h5, ty22, und22, ty28, und28, ty29, und29, ty3, wrap64, hc, if_and, toNat_cast, toNat_add1, loadv, q, Ty.agg, lenv]
    subst hK
    refine h _ ?_ (fun t ht => ?_)
    · have : ¬ (i + 1 = l.length) := by omega
      simp only [Env.get_set]
      simp [this]
    · simp (disch := omega) only [Env.get_set, if_neg]
theorem b27 (x y z : Int) : buildv X 27 [(0, .int .i64 x), (1, .int .i64 y), (2, .int .i64 z)] = some (.agg #[.int .i64 x, .int .i64 y, .int .i64 z]) := rfl
theorem bs24 (x y z : Int) (s : St) : bslicev X 24 1 [(0, .agg #[.int .i64 x, .int .i64 y, .int .i64 z])] s = some (.slice (some ⟨s.size, 0, none⟩) 1 (capX 1), s.push (.own ⟨[.int .i64 x, .int .i64 y, .int .i64 z], 27, 0, 0, false⟩)) := rfl
theorem loop12 (l : List (Int × Int)) (hl : l.length ≤ 100) : ∀ (d i : Nat), d = l.length - i → i ≤ l.length → ∀ (ρ : Env) (s : St) (frm : Nat) (R : List (Int × Nat × Nat)) (Q : Xit → Env → St → Prop),
    ρ.get 4 = .int .i64 frm → ρ.get 7 = .int .i64 l.length → ρ.get 8 = .int .i64 i →
    RoV s 2 (ρ.get 0) l.length (l.flatMap encS) → Tip s 27 3 (ρ.get 3) (R.flatMap encR) R.length → R.length ≤ i → Inv l i frm R →
    (∀ ρ' s' R', Tip s' 27 3 (ρ'.get 3) (R'.flatMap encR) R'.length → RoKeep s s' → Inv l l.length l.length R' → R'.length ≤ l.length → Q (.exit 0) ρ' s') → W X (.loop B12) ρ s Q := by
  intro d
  induction d with
  | zero =>
    intro i hd hi ρ s frm R Q h4 h7 h8 hrv htip hR hinv hQ
    have : i = l.length := by omega
    subst this
    have e : B12 = B12 := rfl
    conv at e => rhs; whnf
    refine W_loop ?_
    conv => arg 2; rw [e]
    clear e
    refine W_seq (W_region (by kernel_rfl) fun K hK => WS_run _ _ _ ?_)
    simp -implicitDefEqProofs (disch := omega) only [List.map_cons, List.map_nil, strip1, List.getElem?_toArray, List.getElem?_cons_succ, List.getElem?_cons_zero, Option.bind_some, runP_nil, runP_always, runP_never, runP_on, guardP_true, guardP_false, contP_some, callP_some, afterP_done, afterP_call, P_buildSlice, evParts, retP_some, stP_some, newP_some, pickP_true, pickP_false, P_move, P_assign, P_pick, P_bin, P_un, P_load, P_store, P_nilCheck, P_fieldAddr, P_field, P_indexAddr, P_index, P_slice, P_build, P_convert, P_extract, P_builtin, P_alloc, P_box, P_makeFunc, P_lookup, P_mapUpdate, P_call, P_buildSlice, evParts, put_some, put_none, evo_tmp, evo_const, evo_func, isB_bool, boolOf_bool, tupOf_tuple, funOf_func, of_get, Env.get_set, bin_add, bin_sub, bin_mul, bin_quo, bin_rem, bin_lss, bin_leq, bin_gtr, bin_geq, bin_eql, bin_neq, un_not, un_neg, builtinv, Option.map_some, Option.map_none, indexAddrv, fieldAddrv, ↓reduceIte, reduceCtorEq, Nat.reduceEqDiff, Nat.reduceAdd, Nat.reduceMul, Nat.add_zero, eq_self, Bool.false_eq_true, Bool.true_eq_false, Bool.not_true, Bool.not_false, beq_self_eq_true, Bool.true_beq, Bool.false_beq, beq_true, beq_false, and_true, true_and, ne_eq, not_false_eq_true, not_true_eq_false, List.cons_append, List.nil_append, List.append_nil, Option.some.injEq, fwd_fwd, decide_true, decide_false, h7, h8, Int.lt_irrefl]
    subst hK
    refine W_seq (W_cond_false (by simp only [evo_tmp, Env.get_set, if_pos]) (W_exit ?_))
    have hfin := hinv.fin rfl
    subst hfin
    exact hQ _ s R (by simp (disch := omega) only [Env.get_set, if_neg]; exact htip) (RoKeep.refl _) hinv hR
  | succ d ih =>
    intro i hd hi ρ s frm R Q h4 h7 h8 hrv htip hR hinv hQ
    have hi : i < l.length := by omega
    have hil : (i : Int) < l.length := by omega
    have e : B12 = B12 := rfl
    conv at e => rhs; whnf
    refine W_loop ?_
    conv => arg 2; rw [e]
    clear e
    obtain ⟨a, cap, h0, hro⟩ := hrv.pos (by omega)
    have q := rd_lab hro.rd
    refine W_seq (W_region (by kernel_rfl) fun K hK => WS_run _ _ _ ?_)
    simp -implicitDefEqProofs (disch := omega) only [List.map_cons, List.map_nil, strip1, List.getElem?_toArray, List.getElem?_cons_succ, List.getElem?_cons_zero, Option.bind_some, runP_nil, runP_always, runP_never, runP_on, guardP_true, guardP_false, contP_some, callP_some, afterP_done, afterP_call, P_buildSlice, evParts, retP_some, stP_some, newP_some, pickP_true, pickP_false, P_move, P_assign, P_pick, P_bin, P_un, P_load, P_store, P_nilCheck, P_fieldAddr, P_field, P_indexAddr, P_index, P_slice, P_build, P_convert, P_extract, P_builtin, P_alloc, P_box, P_makeFunc, P_lookup, P_mapUpdate, P_call, P_buildSlice, evParts, put_some, put_none, evo_tmp, evo_const, evo_func, isB_bool, boolOf_bool, tupOf_tuple, funOf_func, of_get, Env.get_set, bin_add, bin_sub, bin_mul, bin_quo, bin_rem, bin_lss, bin_leq, bin_gtr, bin_geq, bin_eql, bin_neq, un_not, un_neg, builtinv, Option.map_some, Option.map_none, indexAddrv, fieldAddrv, ↓reduceIte, reduceCtorEq, Nat.reduceEqDiff, Nat.reduceAdd, Nat.reduceMul, Nat.add_zero, eq_self, Bool.false_eq_true, Bool.true_eq_false, Bool.not_true, Bool.not_false, beq_self_eq_true, Bool.true_beq, Bool.false_beq, beq_true, beq_false, and_true, true_and, ne_eq, not_false_eq_true, not_true_eq_false, List.cons_append, List.nil_append, List.append_nil, Option.some.injEq, fwd_fwd, decide_true, decide_false, h7, h8, hil]
    subst hK
    refine W_seq (W_cond_true (by simp only [evo_tmp, Env.get_set, if_pos]) (W_skip ?_))
    refine W_seq (W_block (W_seq (W_region (by kernel_rfl) fun K hK => WS_run _ _ _ ?_)))
    simp -implicitDefEqProofs (disch := omega) only [List.map_cons, List.map_nil, strip1, List.getElem?_toArray, List.getElem?_cons_succ, List.getElem?_cons_zero, Option.bind_some, runP_nil, runP_always, runP_never, runP_on, guardP_true, guardP_false, contP_some, callP_some, afterP_done, afterP_call, P_buildSlice, evParts, retP_some, stP_some, newP_some, pickP_true, pickP_false, P_move, P_assign, P_pick, P_bin, P_un, P_load, P_store, P_nilCheck, P_fieldAddr, P_field, P_indexAddr, P_index, P_slice, P_build, P_convert, P_extract, P_builtin, P_alloc, P_box, P_makeFunc, P_lookup, P_mapUpdate, P_call, P_buildSlice, evParts, put_some, put_none, evo_tmp, evo_const, evo_func, isB_bool, boolOf_bool, tupOf_tuple, funOf_func, of_get, Env.get_set, bin_add, bin_sub, bin_mul, bin_quo, bin_rem, bin_lss, bin_leq, bin_gtr, bin_geq, bin_eql, bin_neq, un_not, un_neg, builtinv, Option.map_some, Option.map_none, indexAddrv, fieldAddrv, ↓reduceIte, reduceCtorEq, Nat.reduceEqDiff, Nat.reduceAdd, Nat.reduceMul, Nat.add_zero, eq_self, Bool.false_eq_true, Bool.true_eq_false, Bool.not_true, Bool.not_false, beq_self_eq_true, Bool.true_beq, Bool.false_beq, beq_true, beq_false, and_true, true_and, ne_eq, not_false_eq_true, not_true_eq_false, List.cons_append, List.nil_append, List.append_nil, Option.some.injEq, fwd_fwd, decide_true, decide_false, h7, h8, hil]
    subst hK
    refine W_seq (reg6 l _ _ a cap i _ (by simp only [Env.get_set]; simpa using h0) (by simp only [Env.get_set]; simp) hi hl hro.rd fun ρ' g29 gk => ?_)
    have k0 : ρ'.get 0 = .slice (some a) l.length cap := by rw [gk 0 (by omega)]; simp only [Env.get_set]; simpa using h0
    have k3 : ρ'.get 3 = ρ.get 3 := by rw [gk 3 (by omega)]; simp only [Env.get_set]; simp
    have k4 : ρ'.get 4 = .int .i64 frm := by rw [gk 4 (by omega)]; simp only [Env.get_set]; simpa using h4
    have k5 : ρ'.get 5 = .int .i64 i := by rw [gk 5 (by omega)]; simp only [Env.get_set]; simp
    have k7 : ρ'.get 7 = .int .i64 l.length := by rw [gk 7 (by omega)]; simp only [Env.get_set]; simpa using h7
    have k8 : ρ'.get 8 = .int .i64 i := by rw [gk 8 (by omega)]; simp only [Env.get_set]; simpa using h8
    by_cases hc : i + 1 = l.length ∨ lab l (i + 1) ≠ lab l i
    · refine W_cond_true (by rw [evo_tmp, g29]; simp [hc]) ?_
      refine W_seq (W_region (by kernel_rfl) fun K hK => WS_run _ _ _ ?_)
      simp -implicitDefEqProofs (disch := omega) only [List.map_cons, List.map_nil, strip1, List.getElem?_toArray, List.getElem?_cons_succ, List.getElem?_cons_zero, Option.bind_some, runP_nil, runP_always, runP_never, runP_on, guardP_true, guardP_false, contP_some, callP_some, afterP_done, afterP_call, P_buildSlice, evParts, retP_some, stP_some, newP_some, pickP_true, pickP_false, P_move, P_assign, P_pick, P_bin, P_un, P_load, P_store, P_nilCheck, P_fieldAddr, P_field, P_indexAddr, P_index, P_slice, P_build, P_convert, P_extract, P_builtin, P_alloc, P_box, P_makeFunc, P_lookup, P_mapUpdate, P_call, P_buildSlice, evParts, put_some, put_none, evo_tmp, evo_const, evo_func, isB_bool, boolOf_bool, tupOf_tuple, funOf_func, of_get, Env.get_set, bin_add, bin_sub, bin_mul, bin_quo, bin_rem, bin_lss, bin_leq, bin_gtr, bin_geq, bin_eql, bin_neq, un_not, un_neg, builtinv, Option.map_some, Option.map_none, indexAddrv, fieldAddrv, ↓reduceIte, reduceCtorEq, Nat.reduceEqDiff, Nat.reduceAdd, Nat.reduceMul, Nat.add_zero, eq_self, Bool.false_eq_true, Bool.true_eq_false, Bool.not_true, Bool.not_false, beq_self_eq_true, Bool.true_beq, Bool.false_beq, beq_true, beq_false, and_true, true_and, ne_eq, not_false_eq_true, not_true_eq_false, List.cons_append, List.nil_append, List.append_nil, Option.some.injEq, fwd_fwd, decide_true, decide_false, k0, k3, k4, k5, ty22, und22, ty28, und28, ty29, und29, ty3, wrap64, if_and, toNat_cast, toNat_add1, loadv, q, Ty.agg, b27, bs24]
      subst hK
      obtain ⟨v', s', e1, htip', _, hro'⟩ := append_tip (X := X) und24 ty27 und24 (c1 := capX 1) (m := 1) (rd_new s [.int .i64 (lab l i), .int .i64 frm, .int .i64 ((i : Int) + 1)] 27 3 rfl) (htip.push _) (by decide) (by simp [roomOk]; omega) rfl
      rw [e1]
      simp -implicitDefEqProofs (disch := omega) only [List.map_cons, List.map_nil, strip1, List.getElem?_toArray, List.getElem?_cons_succ, List.getElem?_cons_zero, Option.bind_some, runP_nil, runP_always, runP_never, runP_on, guardP_true, guardP_false, contP_some, callP_some, afterP_done, afterP_call, P_buildSlice, evParts, retP_some, stP_some, newP_some, pickP_true, pickP_false, P_move, P_assign, P_pick, P_bin, P_un, P_load, P_store, P_nilCheck, P_fieldAddr, P_field, P_indexAddr, P_index, P_slice, P_build, P_convert, P_extract, P_builtin, P_alloc, P_box, P_makeFunc, P_lookup, P_mapUpdate, P_call, P_buildSlice, evParts, put_some, put_none, evo_tmp, evo_const, evo_func, isB_bool, boolOf_bool, tupOf_tuple, funOf_func, of_get, Env.get_set, bin_add, bin_sub, bin_mul, bin_quo, bin_rem, bin_lss, bin_leq, bin_gtr, bin_geq, bin_eql, bin_neq, un_not, un_neg, builtinv, Option.map_some, Option.map_none, indexAddrv, fieldAddrv, ↓reduceIte, reduceCtorEq, Nat.reduceEqDiff, Nat.reduceAdd, Nat.reduceMul, Nat.add_zero, eq_self, Bool.false_eq_true, Bool.true_eq_false, Bool.not_true, Bool.not_false, beq_self_eq_true, Bool.true_beq, Bool.false_beq, beq_true, beq_false, and_true, true_and, ne_eq, not_false_eq_true, not_true_eq_false, List.cons_append, List.nil_append, List.append_nil, Option.some.injEq, fwd_fwd, decide_true, decide_false]
      refine W_region (by kernel_rfl) fun K hK => WS_run _ _ _ ?_
      simp -implicitDefEqProofs (disch := omega) only [List.map_cons, List.map_nil, strip1, List.getElem?_toArray, List.getElem?_cons_succ, List.getElem?_cons_zero, Option.bind_some, runP_nil, runP_always, runP_never, runP_on, guardP_true, guardP_false, contP_some, callP_some, afterP_done, afterP_call, P_buildSlice, evParts, retP_some, stP_some, newP_some, pickP_true, pickP_false, P_move, P_assign, P_pick, P_bin, P_un, P_load, P_store, P_nilCheck, P_fieldAddr, P_field, P_indexAddr, P_index, P_slice, P_build, P_convert, P_extract, P_builtin, P_alloc, P_box, P_makeFunc, P_lookup, P_mapUpdate, P_call, P_buildSlice, evParts, put_some, put_none, evo_tmp, evo_const, evo_func, isB_bool, boolOf_bool, tupOf_tuple, funOf_func, of_get, Env.get_set, bin_add, bin_sub, bin_mul, bin_quo, bin_rem, bin_lss, bin_leq, bin_gtr, bin_geq, bin_eql, bin_neq, un_not, un_neg, builtinv, Option.map_some, Option.map_none, indexAddrv, fieldAddrv, ↓reduceIte, reduceCtorEq, Nat.reduceEqDiff, Nat.reduceAdd, Nat.reduceMul, Nat.add_zero, eq_self, Bool.false_eq_true, Bool.true_eq_false, Bool.not_true, Bool.not_false, beq_self_eq_true, Bool.true_beq, Bool.false_beq, beq_true, beq_false, and_true, true_and, ne_eq, not_false_eq_true, not_true_eq_false, List.cons_append, List.nil_append, List.append_nil, Option.some.injEq, fwd_fwd, decide_true, decide_false, k5, wrap64]
      subst hK
      refine W_region (by kernel_rfl) fun K hK => WS_run _ _ _ ?_
      simp -implicitDefEqProofs (disch := omega) only [List.map_cons, List.map_nil, strip1, List.getElem?_toArray, List.getElem?_cons_succ, List.getElem?_cons_zero, Option.bind_some, runP_nil, runP_always, runP_never, runP_on, guardP_true, guardP_false, contP_some, callP_some, afterP_done, afterP_call, P_buildSlice, evParts, retP_some, stP_some, newP_some, pickP_true, pickP_false, P_move, P_assign, P_pick, P_bin, P_un, P_load, P_store, P_nilCheck, P_fieldAddr, P_field, P_indexAddr, P_index, P_slice, P_build, P_convert, P_extract, P_builtin, P_alloc, P_box, P_makeFunc, P_lookup, P_mapUpdate, P_call, P_buildSlice, evParts, put_some, put_none, evo_tmp, evo_const, evo_func, isB_bool, boolOf_bool, tupOf_tuple, funOf_func, of_get, Env.get_set, bin_add, bin_sub, bin_mul, bin_quo, bin_rem, bin_lss, bin_leq, bin_gtr, bin_geq, bin_eql, bin_neq, un_not, un_neg, builtinv, Option.map_some, Option.map_none, indexAddrv, fieldAddrv, ↓reduceIte, reduceCtorEq, Nat.reduceEqDiff, Nat.reduceAdd, Nat.reduceMul, Nat.add_zero, eq_self, Bool.false_eq_true, Bool.true_eq_false, Bool.not_true, Bool.not_false, beq_self_eq_true, Bool.true_beq, Bool.false_beq, beq_true, beq_false, and_true, true_and, ne_eq, not_false_eq_true, not_true_eq_false, List.cons_append, List.nil_append, List.append_nil, Option.some.injEq, fwd_fwd, decide_true, decide_false, k8, wrap64]
      subst hK
      have hk : RoKeep s s' := (RoKeep.push s _).trans hro'
      refine ih (i + 1) (by omega) (by omega) _ s' (i + 1) (R ++ [(lab l i, frm, i + 1)]) Q ?_ ?_ ?_ ?_ ?_ ?_ (inv_push hinv hi hc) ?_
      · simp [Env.get_set]
      · simp [Env.get_set, k7]
      · simp [Env.get_set]
      · simp only [Env.get_set]
        simpa [k0] using RoV.row a _ cap _ (hro.keep hk)
      · have : (R ++ [(lab l i, frm, i + 1)]).flatMap encR = R.flatMap encR ++ [.int .i64 (lab l i), .int .i64 frm, .int .i64 ((i : Int) + 1)] := by simp [encR]
        rw [this]
        simpa [Env.get_set] using htip'
      · simp; omega
      · intro ρ2 s2 R2 t1 t2 t3 t4
        exact hQ ρ2 s2 R2 t1 (hk.trans t2) t3 t4
    · refine W_cond_false (by rw [evo_tmp, g29]; simp [hc]) ?_
      refine W_skip ?_
      refine W_region (by kernel_rfl) fun K hK => WS_run _ _ _ ?_
      simp -implicitDefEqProofs (disch := omega) only [List.map_cons, List.map_nil, strip1, List.getElem?_toArray, List.getElem?_cons_succ, List.getElem?_cons_zero, Option.bind_some, runP_nil, runP_always, runP_never, runP_on, guardP_true, guardP_false, contP_some, callP_some, afterP_done, afterP_call, P_buildSlice, evParts, retP_some, stP_some, newP_some, pickP_true, pickP_false, P_move, P_assign, P_pick, P_bin, P_un, P_load, P_store, P_nilCheck, P_fieldAddr, P_field, P_indexAddr, P_index, P_slice, P_build, P_convert, P_extract, P_builtin, P_alloc, P_box, P_makeFunc, P_lookup, P_mapUpdate, P_call, P_buildSlice, evParts, put_some, put_none, evo_tmp, evo_const, evo_func, isB_bool, boolOf_bool, tupOf_tuple, funOf_func, of_get, Env.get_set, bin_add, bin_sub, bin_mul, bin_quo, bin_rem, bin_lss, bin_leq, bin_gtr, bin_geq, bin_eql, bin_neq, un_not, un_neg, builtinv, Option.map_some, Option.map_none, indexAddrv, fieldAddrv, ↓reduceIte, reduceCtorEq, Nat.reduceEqDiff, Nat.reduceAdd, Nat.reduceMul, Nat.add_zero, eq_self, Bool.false_eq_true, Bool.true_eq_false, Bool.not_true, Bool.not_false, beq_self_eq_true, Bool.true_beq, Bool.false_beq, beq_true, beq_false, and_true, true_and, ne_eq, not_false_eq_true, not_true_eq_false, List.cons_append, List.nil_append, List.append_nil, Option.some.injEq, fwd_fwd, decide_true, decide_false, k8, wrap64]
      subst hK
      refine ih (i + 1) (by omega) (by omega) _ s frm R Q ?_ ?_ ?_ ?_ ?_ (by omega) (inv_keep hinv (by omega) (by omega)) hQ
      · simp [Env.get_set, k4]
      · simp [Env.get_set, k7]
      · simp [Env.get_set]
      · simp only [Env.get_set]
        simpa [k0] using RoV.row a _ cap _ hro
      · simpa [Env.get_set, k3] using htip
theorem runs_ok {l : List (Int × Int)} (hl : l.length ≤ 100) {v : Value} {s : St} {Q : Value → St → Prop} (hv : RoV s 2 v l.length (l.flatMap encS))
    (hQ : ∀ r s' R, Tip s' 27 3 r (R.flatMap encR) R.length → RoKeep s s' → Inv l l.length l.length R → R.length ≤ l.length → Q r s') : WC X 12 [v] s Q := by
  refine WC_enter (fn := Try.f12) (c := bodyOf Try.f12) rfl rfl rfl (by show 1 ≤ Try.f12.ntmps; decide) ?_
  have e : bodyOf Try.f12 = bodyOf Try.f12 := rfl
  conv at e => rhs; whnf
  conv => arg 2; rw [e]
  clear e
  refine W_seq (W_region (by kernel_rfl) fun K hK => WS_run _ _ _ ?_)
  simp -implicitDefEqProofs (disch := omega) only [List.map_cons, List.map_nil, strip1, List.getElem?_toArray, List.getElem?_cons_succ, List.getElem?_cons_zero, Option.bind_some, runP_nil, runP_always, runP_never, runP_on, guardP_true, guardP_false, contP_some, callP_some, afterP_done, afterP_call, P_buildSlice, evParts, retP_some, stP_some, newP_some, pickP_true, pickP_false, P_move, P_assign, P_pick, P_bin, P_un, P_load, P_store, P_nilCheck, P_fieldAddr, P_field, P_indexAddr, P_index, P_slice, P_build, P_convert, P_extract, P_builtin, P_alloc, P_box, P_makeFunc, P_lookup, P_mapUpdate, P_call, P_buildSlice, evParts, put_some, put_none, evo_tmp, evo_const, evo_func, isB_bool, boolOf_bool, tupOf_tuple, funOf_func, of_get, Env.get_set, bin_add, bin_sub, bin_mul, bin_quo, bin_rem, bin_lss, bin_leq, bin_gtr, bin_geq, bin_eql, bin_neq, un_not, un_neg, builtinv, Option.map_some, Option.map_none, indexAddrv, fieldAddrv, ↓reduceIte, reduceCtorEq, Nat.reduceEqDiff, Nat.reduceAdd, Nat.reduceMul, Nat.add_zero, eq_self, Bool.false_eq_true, Bool.true_eq_false, Bool.not_true, Bool.not_false, beq_self_eq_true, Bool.true_beq, Bool.false_beq, beq_true, beq_false, and_true, true_and, ne_eq, not_false_eq_true, not_true_eq_false, List.cons_append, List.nil_append, List.append_nil, Option.some.injEq, fwd_fwd, decide_true, decide_false]
  subst hK
  refine W_seq (W_region (by kernel_rfl) fun K hK => WS_run _ _ _ ?_)
  simp -implicitDefEqProofs (disch := omega) only [List.map_cons, List.map_nil, strip1, List.getElem?_toArray, List.getElem?_cons_succ, List.getElem?_cons_zero, Option.bind_some, runP_nil, runP_always, runP_never, runP_on, guardP_true, guardP_false, contP_some, callP_some, afterP_done, afterP_call, P_buildSlice, evParts, retP_some, stP_some, newP_some, pickP_true, pickP_false, P_move, P_assign, P_pick, P_bin, P_un, P_load, P_store, P_nilCheck, P_fieldAddr, P_field, P_indexAddr, P_index, P_slice, P_build, P_convert, P_extract, P_builtin, P_alloc, P_box, P_makeFunc, P_lookup, P_mapUpdate, P_call, P_buildSlice, evParts, put_some, put_none, evo_tmp, evo_const, evo_func, isB_bool, boolOf_bool, tupOf_tuple, funOf_func, of_get, Env.get_set, bin_add, bin_sub, bin_mul, bin_quo, bin_rem, bin_lss, bin_leq, bin_gtr, bin_geq, bin_eql, bin_neq, un_not, un_neg, builtinv, Option.map_some, Option.map_none, indexAddrv, fieldAddrv, ↓reduceIte, reduceCtorEq, Nat.reduceEqDiff, Nat.reduceAdd, Nat.reduceMul, Nat.add_zero, eq_self, Bool.false_eq_true, Bool.true_eq_false, Bool.not_true, Bool.not_false, beq_self_eq_true, Bool.true_beq, Bool.false_beq, beq_true, beq_false, and_true, true_and, ne_eq, not_false_eq_true, not_true_eq_false, List.cons_append, List.nil_append, List.append_nil, Option.some.injEq, fwd_fwd, decide_true, decide_false]
  subst hK
  refine W_seq (W_region (by kernel_rfl) fun K hK => WS_run _ _ _ ?_)
  simp -implicitDefEqProofs (disch := omega) only [List.map_cons, List.map_nil, strip1, List.getElem?_toArray, List.getElem?_cons_succ, List.getElem?_cons_zero, Option.bind_some, runP_nil, runP_always, runP_never, runP_on, guardP_true, guardP_false, contP_some, callP_some, afterP_done, afterP_call, P_buildSlice, evParts, retP_some, stP_some, newP_some, pickP_true, pickP_false, P_move, P_assign, P_pick, P_bin, P_un, P_load, P_store, P_nilCheck, P_fieldAddr, P_field, P_indexAddr, P_index, P_slice, P_build, P_convert, P_extract, P_builtin, P_alloc, P_box, P_makeFunc, P_lookup, P_mapUpdate, P_call, P_buildSlice, evParts, put_some, put_none, evo_tmp, evo_const, evo_func, isB_bool, boolOf_bool, tupOf_tuple, funOf_func, of_get, Env.get_set, bin_add, bin_sub, bin_mul, bin_quo, bin_rem, bin_lss, bin_leq, bin_gtr, bin_geq, bin_eql, bin_neq, un_not, un_neg, builtinv, Option.map_some, Option.map_none, indexAddrv, fieldAddrv, ↓reduceIte, reduceCtorEq, Nat.reduceEqDiff, Nat.reduceAdd, Nat.reduceMul, Nat.add_zero, eq_self, Bool.false_eq_true, Bool.true_eq_false, Bool.not_true, Bool.not_false, beq_self_eq_true, Bool.true_beq, Bool.false_beq, beq_true, beq_false, and_true, true_and, ne_eq, not_false_eq_true, not_true_eq_false, List.cons_append, List.nil_append, List.append_nil, Option.some.injEq, fwd_fwd, decide_true, decide_false]
  subst hK
  refine W_seq (W_seq (W_region (by kernel_rfl) fun K hK => WS_run _ _ _ ?_))
  simp -implicitDefEqProofs (disch := omega) only [List.map_cons, List.map_nil, strip1, List.getElem?_toArray, List.getElem?_cons_succ, List.getElem?_cons_zero, Option.bind_some, runP_nil, runP_always, runP_never, runP_on, guardP_true, guardP_false, contP_some, callP_some, afterP_done, afterP_call, P_buildSlice, evParts, retP_some, stP_some, newP_some, pickP_true, pickP_false, P_move, P_assign, P_pick, P_bin, P_un, P_load, P_store, P_nilCheck, P_fieldAddr, P_field, P_indexAddr, P_index, P_slice, P_build, P_convert, P_extract, P_builtin, P_alloc, P_box, P_makeFunc, P_lookup, P_mapUpdate, P_call, P_buildSlice, evParts, put_some, put_none, evo_tmp, evo_const, evo_func, isB_bool, boolOf_bool, tupOf_tuple, funOf_func, of_get, Env.get_set, bin_add, bin_sub, bin_mul, bin_quo, bin_rem, bin_lss, bin_leq, bin_gtr, bin_geq, bin_eql, bin_neq, un_not, un_neg, builtinv, Option.map_some, Option.map_none, indexAddrv, fieldAddrv, ↓reduceIte, reduceCtorEq, Nat.reduceEqDiff, Nat.reduceAdd, Nat.reduceMul, Nat.add_zero, eq_self, Bool.false_eq_true, Bool.true_eq_false, Bool.not_true, Bool.not_false, beq_self_eq_true, Bool.true_beq, Bool.false_beq, beq_true, beq_false, and_true, true_and, ne_eq, not_false_eq_true, not_true_eq_false, List.cons_append, List.nil_append, List.append_nil, Option.some.injEq, fwd_fwd, decide_true, decide_false, List.getD_cons_zero, hv.len ty22]
  subst hK
  refine W_block (loop12 l hl l.length 0 rfl (by omega) _ s 0 [] _ ?_ ?_ ?_ ?_ ?_ (by simp) ?_ fun ρ' s' R' t1 t2 t3 t4 => ?_)
  · simp [Env.get_set]
  · simp [Env.get_set]
  · simp [Env.get_set]
  · simpa [Env.get_set, of_get] using hv
  · simpa [Env.get_set] using Tip.nil
  · exact ⟨rfl, Nat.le_refl _, fun j h1 h2 _ => by rw [show j = 0 by omega], fun q R' h => by simp at h, fun h => rfl⟩
  · refine W_seq (W_region (by kernel_rfl) fun K hK => WS_run _ _ _ ?_)
    simp -implicitDefEqProofs (disch := omega) only [List.map_cons, List.map_nil, strip1, List.getElem?_toArray, List.getElem?_cons_succ, List.getElem?_cons_zero, Option.bind_some, runP_nil, runP_always, runP_never, runP_on, guardP_true, guardP_false, contP_some, callP_some, afterP_done, afterP_call, P_buildSlice, evParts, retP_some, stP_some, newP_some, pickP_true, pickP_false, P_move, P_assign, P_pick, P_bin, P_un, P_load, P_store, P_nilCheck, P_fieldAddr, P_field, P_indexAddr, P_index, P_slice, P_build, P_convert, P_extract, P_builtin, P_alloc, P_box, P_makeFunc, P_lookup, P_mapUpdate, P_call, P_buildSlice, evParts, put_some, put_none, evo_tmp, evo_const, evo_func, isB_bool, boolOf_bool, tupOf_tuple, funOf_func, of_get, Env.get_set, bin_add, bin_sub, bin_mul, bin_quo, bin_rem, bin_lss, bin_leq, bin_gtr, bin_geq, bin_eql, bin_neq, un_not, un_neg, builtinv, Option.map_some, Option.map_none, indexAddrv, fieldAddrv, ↓reduceIte, reduceCtorEq, Nat.reduceEqDiff, Nat.reduceAdd, Nat.reduceMul, Nat.add_zero, eq_self, Bool.false_eq_true, Bool.true_eq_false, Bool.not_true, Bool.not_false, beq_self_eq_true, Bool.true_beq, Bool.false_beq, beq_true, beq_false, and_true, true_and, ne_eq, not_false_eq_true, not_true_eq_false, List.cons_append, List.nil_append, List.append_nil, Option.some.injEq, fwd_fwd, decide_true, decide_false]
    subst hK
    refine W_ret ?_
    refine ⟨_, rfl, ?_⟩
    refine hQ _ s' R' ?_ t2 t3 t4
    simpa [Env.get_set, resv, tupv] using t1

/-! The runs, from the front -/
def rg (R : List (Int × Nat × Nat)) (i : Nat) : Int × Nat × Nat := R.getD i (0, 0, 0)
def endAt (R : List (Int × Nat × Nat)) (i : Nat) : Nat := if i = 0 then 0 else (rg R (i - 1)).2.2
structure Fit (l : List (Int × Int)) (R : List (Int × Nat × Nat)) (n i : Nat) : Prop where
  frm : (rg R i).2.1 = endAt R i
  lt : (rg R i).2.1 < (rg R i).2.2
  le : (rg R i).2.2 ≤ n
  lab : ∀ j, (rg R i).2.1 ≤ j → j < (rg R i).2.2 → Ab.lab l j = (rg R i).1
  ne : 0 < i → (rg R (i - 1)).1 ≠ (rg R i).1
theorem rg_app {R : List (Int × Nat × Nat)} {r : Int × Nat × Nat} {i : Nat} (h : i < R.length) : rg (R ++ [r]) i = rg R i := by
  simp [rg, List.getElem?_append_left h]
theorem rg_last (R : List (Int × Nat × Nat)) (r : Int × Nat × Nat) : rg (R ++ [r]) R.length = r := by simp [rg]
theorem endAt_app {R : List (Int × Nat × Nat)} {r : Int × Nat × Nat} {i : Nat} (h : i ≤ R.length) : endAt (R ++ [r]) i = endAt R i := by
  unfold endAt
  by_cases hi : i = 0
  · simp [hi]
  · simp only [hi, if_false]; rw [rg_app (by omega)]
theorem fits {l : List (Int × Int)} : ∀ (P : List (Int × Nat × Nat)) (n : Nat), Parts l P n → (∀ i, i < P.length → Fit l P.reverse n i) ∧ endAt P.reverse P.length = n
  | [], n, h => ⟨fun i hi => by simp at hi, by simp only [Parts] at h; subst h; rfl⟩
  | r :: P, n, h => by
    obtain ⟨h1, h2, h3, h4, h5⟩ := h
    obtain ⟨ih, ie⟩ := fits P _ h1
    have hl : P.reverse.length = P.length := List.length_reverse
    have e0 : (r :: P).reverse = P.reverse ++ [r] := List.reverse_cons
    rw [e0]
    refine ⟨fun i hi => ?_, ?_⟩
    · by_cases hlt : i < P.length
      · have f := ih i hlt
        have g1 : rg (P.reverse ++ [r]) i = rg P.reverse i := rg_app (by omega)
        have g2 : rg (P.reverse ++ [r]) (i - 1) = rg P.reverse (i - 1) := rg_app (by omega)
        refine ⟨?_, ?_, ?_, ?_, ?_⟩
        · rw [g1, endAt_app (by omega)]; exact f.frm
        · rw [g1]; exact f.lt
        · rw [g1]; have := f.le; omega
        · rw [g1]; exact f.lab
        · rw [g1, g2]; exact f.ne
      · have : i = P.length := by simp at hi; omega
        subst this
        have g1 : rg (P.reverse ++ [r]) P.length = r := by have := rg_last P.reverse r; rwa [hl] at this
        refine ⟨?_, ?_, ?_, ?_, ?_⟩
        · rw [g1, endAt_app (by omega), ie]
        · rw [g1, h2]; exact h3
        · rw [g1, h2]; exact Nat.le_refl _
        · rw [g1, h2]; exact h4
        · intro hp
          rw [g1, rg_app (by omega)]
          cases P with
          | nil => simp at hp
          | cons q P' =>
            have := h5 q P' rfl
            have e1 : (q :: P').reverse = P'.reverse ++ [q] := List.reverse_cons
            rw [e1]
            have e2 : (q :: P').length - 1 = P'.reverse.length := by simp
            rw [e2, rg_last]
            exact this
    · unfold endAt
      have : rg (P.reverse ++ [r]) ((r :: P).length - 1) = r := by
        have := rg_last P.reverse r
        rw [hl] at this
        simpa using this
      rw [this]
      simp [h2]
theorem rd_rg {s : St} {a : Addr} {R : List (Int × Nat × Nat)} (h : s.rd a (R.length * 3) = some (R.flatMap encR)) (i : Nat) (hi : i < R.length) :
    s.rd (Addr.fwd a (i * 3)) 1 = some [.int .i64 (rg R i).1] ∧ s.rd (Addr.fwd a (i * 3 + 1)) 1 = some [.int .i64 (rg R i).2.1] ∧ s.rd (Addr.fwd a (i * 3 + 2)) 1 = some [.int .i64 (rg R i).2.2] := by
  have h0 := flatMap_get encR 3 (fun _ => rfl) R i 0 R[i] (List.getElem?_eq_getElem hi) (by omega)
  have h1 := flatMap_get encR 3 (fun _ => rfl) R i 1 R[i] (List.getElem?_eq_getElem hi) (by omega)
  have h2 := flatMap_get encR 3 (fun _ => rfl) R i 2 R[i] (List.getElem?_eq_getElem hi) (by omega)
  have e : rg R i = R[i] := by simp [rg, hi]
  rw [e]
  exact ⟨rd_at h (by simpa [encR] using h0), rd_at h (by simpa [encR] using h1), rd_at h (by simpa [encR] using h2)⟩

/-! The law -/
noncomputable def L3 : Code := codeAt (bodyOf Try.f3) [1,1,1,1,0,1,0,0]
noncomputable def M3 : Code := codeAt L3 [1,0,0,1,0,0]
theorem inner3 (l : List (Int × Int)) (hl : l.length ≤ 100) (R : List (Int × Nat × Nat)) (hR : R.length ≤ l.length) (i : Nat) (hi : i < R.length) (f : Fit l R l.length i) (s : St) (a b : Addr) (cap capb : Nat)
    (hra : s.rd a (l.length * 2) = some (l.flatMap encS)) (hrb : s.rd b (R.length * 3) = some (R.flatMap encR)) :
    ∀ (d at_ : Nat), d = (rg R i).2.2 - at_ → (rg R i).2.1 ≤ at_ → at_ ≤ (rg R i).2.2 → ∀ (ρ : Env) (Q : Xit → Env → St → Prop),
      ρ.get 0 = .slice (some a) l.length cap → ρ.get 3 = .slice (some b) R.length capb → ρ.get 4 = .int .i64 at_ → ρ.get 5 = .int .i64 i →
      (∀ ρ' : Env, ρ'.get 0 = .slice (some a) l.length cap → ρ'.get 3 = .slice (some b) R.length capb → ρ'.get 4 = .int .i64 (rg R i).2.2 → ρ'.get 5 = .int .i64 i → Q (.exit 2) ρ' s) → W X (.loop M3) ρ s Q := by
  intro d
  have q := fun j hj => rd_lab hra j hj
  obtain ⟨q0, q1, q2⟩ := rd_rg hrb i hi
  have hle := f.le
  induction d with
  | zero =>
    intro at_ hd h1 h2 ρ Q g0 g3 g4 g5 hQ
    have hat : at_ = (rg R i).2.2 := by omega
    subst hat
    have e : M3 = M3 := rfl
    conv at e => rhs; whnf
    refine W_loop ?_
    conv => arg 2; rw [e]
    clear e
    refine W_seq (W_seq (W_region (by kernel_rfl) fun K hK => WS_run _ _ _ ?_))
    simp -implicitDefEqProofs (disch := omega) only [List.map_cons, List.map_nil, strip1, List.getElem?_toArray, List.getElem?_cons_succ, List.getElem?_cons_zero, Option.bind_some, runP_nil, runP_always, runP_never, runP_on, guardP_true, guardP_false, contP_some, callP_some, afterP_done, afterP_call, P_buildSlice, evParts, retP_some, stP_some, newP_some, pickP_true, pickP_false, P_move, P_assign, P_pick, P_bin, P_un, P_load, P_store, P_nilCheck, P_fieldAddr, P_field, P_indexAddr, P_index, P_slice, P_build, P_convert, P_extract, P_builtin, P_alloc, P_box, P_makeFunc, P_lookup, P_mapUpdate, P_call, P_buildSlice, evParts, put_some, put_none, evo_tmp, evo_const, evo_func, isB_bool, boolOf_bool, tupOf_tuple, funOf_func, of_get, Env.get_set, bin_add, bin_sub, bin_mul, bin_quo, bin_rem, bin_lss, bin_leq, bin_gtr, bin_geq, bin_eql, bin_neq, un_not, un_neg, builtinv, Option.map_some, Option.map_none, indexAddrv, fieldAddrv, ↓reduceIte, reduceCtorEq, Nat.reduceEqDiff, Nat.reduceAdd, Nat.reduceMul, Nat.add_zero, eq_self, Bool.false_eq_true, Bool.true_eq_false, Bool.not_true, Bool.not_false, beq_self_eq_true, Bool.true_beq, Bool.false_beq, beq_true, beq_false, and_true, true_and, ne_eq, not_false_eq_true, not_true_eq_false, List.cons_append, List.nil_append, List.append_nil, Option.some.injEq, fwd_fwd, decide_true, decide_false, g3, g4, g5, ty24, und24, ty27, und27, ty3, if_and, toNat_cast, loadv, q2, Ty.agg, Int.lt_irrefl]
    subst hK
    refine W_cond_false (by simp only [evo_tmp, Env.get_set, if_pos]) (W_exit ?_)
    exact hQ _ (by simp [Env.get_set, g0]) (by simp [Env.get_set, g3]) (by simp [Env.get_set, g4]) (by simp [Env.get_set, g5])
  | succ d ih =>
    intro at_ hd h1 h2 ρ Q g0 g3 g4 g5 hQ
    have hlt : (at_ : Int) < (rg R i).2.2 := by omega
    have hlab := f.lab at_ h1 (by omega)
    have q3 := q at_ (by omega)
    rw [hlab] at q3
    have e : M3 = M3 := rfl
    conv at e => rhs; whnf
    refine W_loop ?_
    conv => arg 2; rw [e]
    clear e
    refine W_seq (W_seq (W_region (by kernel_rfl) fun K hK => WS_run _ _ _ ?_))
    simp -implicitDefEqProofs (disch := omega) only [List.map_cons, List.map_nil, strip1, List.getElem?_toArray, List.getElem?_cons_succ, List.getElem?_cons_zero, Option.bind_some, runP_nil, runP_always, runP_never, runP_on, guardP_true, guardP_false, contP_some, callP_some, afterP_done, afterP_call, P_buildSlice, evParts, retP_some, stP_some, newP_some, pickP_true, pickP_false, P_move, P_assign, P_pick, P_bin, P_un, P_load, P_store, P_nilCheck, P_fieldAddr, P_field, P_indexAddr, P_index, P_slice, P_build, P_convert, P_extract, P_builtin, P_alloc, P_box, P_makeFunc, P_lookup, P_mapUpdate, P_call, P_buildSlice, evParts, put_some, put_none, evo_tmp, evo_const, evo_func, isB_bool, boolOf_bool, tupOf_tuple, funOf_func, of_get, Env.get_set, bin_add, bin_sub, bin_mul, bin_quo, bin_rem, bin_lss, bin_leq, bin_gtr, bin_geq, bin_eql, bin_neq, un_not, un_neg, builtinv, Option.map_some, Option.map_none, indexAddrv, fieldAddrv, ↓reduceIte, reduceCtorEq, Nat.reduceEqDiff, Nat.reduceAdd, Nat.reduceMul, Nat.add_zero, eq_self, Bool.false_eq_true, Bool.true_eq_false, Bool.not_true, Bool.not_false, beq_self_eq_true, Bool.true_beq, Bool.false_beq, beq_true, beq_false, and_true, true_and, ne_eq, not_false_eq_true, not_true_eq_false, List.cons_append, List.nil_append, List.append_nil, Option.some.injEq, fwd_fwd, decide_true, decide_false, g3, g4, g5, ty24, und24, ty27, und27, ty3, if_and, toNat_cast, loadv, q2, Ty.agg, hlt]
    subst hK
    refine W_cond_true (by simp only [evo_tmp, Env.get_set, if_pos]) (W_skip ?_)
    refine W_seq (W_block (W_seq (W_region (by kernel_rfl) fun K hK => WS_run _ _ _ ?_)))
    simp -implicitDefEqProofs (disch := omega) only [List.map_cons, List.map_nil, strip1, List.getElem?_toArray, List.getElem?_cons_succ, List.getElem?_cons_zero, Option.bind_some, runP_nil, runP_always, runP_never, runP_on, guardP_true, guardP_false, contP_some, callP_some, afterP_done, afterP_call, P_buildSlice, evParts, retP_some, stP_some, newP_some, pickP_true, pickP_false, P_move, P_assign, P_pick, P_bin, P_un, P_load, P_store, P_nilCheck, P_fieldAddr, P_field, P_indexAddr, P_index, P_slice, P_build, P_convert, P_extract, P_builtin, P_alloc, P_box, P_makeFunc, P_lookup, P_mapUpdate, P_call, P_buildSlice, evParts, put_some, put_none, evo_tmp, evo_const, evo_func, isB_bool, boolOf_bool, tupOf_tuple, funOf_func, of_get, Env.get_set, bin_add, bin_sub, bin_mul, bin_quo, bin_rem, bin_lss, bin_leq, bin_gtr, bin_geq, bin_eql, bin_neq, un_not, un_neg, builtinv, Option.map_some, Option.map_none, indexAddrv, fieldAddrv, ↓reduceIte, reduceCtorEq, Nat.reduceEqDiff, Nat.reduceAdd, Nat.reduceMul, Nat.add_zero, eq_self, Bool.false_eq_true, Bool.true_eq_false, Bool.not_true, Bool.not_false, beq_self_eq_true, Bool.true_beq, Bool.false_beq, beq_true, beq_false, and_true, true_and, ne_eq, not_false_eq_true, not_true_eq_false, List.cons_append, List.nil_append, List.append_nil, Option.some.injEq, fwd_fwd, decide_true, decide_false, g0, g3, g4, g5, ty24, und24, ty27, und27, ty22, und22, ty29, und29, ty3, if_and, toNat_cast, loadv, q0, q3, Ty.agg]
    subst hK
    refine W_cond_false (by simp only [evo_tmp, Env.get_set, if_pos]) (W_skip ?_)
    refine W_region (by kernel_rfl) fun K hK => WS_run _ _ _ ?_
    simp -implicitDefEqProofs (disch := omega) only [List.map_cons, List.map_nil, strip1, List.getElem?_toArray, List.getElem?_cons_succ, List.getElem?_cons_zero, Option.bind_some, runP_nil, runP_always, runP_never, runP_on, guardP_true, guardP_false, contP_some, callP_some, afterP_done, afterP_call, P_buildSlice, evParts, retP_some, stP_some, newP_some, pickP_true, pickP_false, P_move, P_assign, P_pick, P_bin, P_un, P_load, P_store, P_nilCheck, P_fieldAddr, P_field, P_indexAddr, P_index, P_slice, P_build, P_convert, P_extract, P_builtin, P_alloc, P_box, P_makeFunc, P_lookup, P_mapUpdate, P_call, P_buildSlice, evParts, put_some, put_none, evo_tmp, evo_const, evo_func, isB_bool, boolOf_bool, tupOf_tuple, funOf_func, of_get, Env.get_set, bin_add, bin_sub, bin_mul, bin_quo, bin_rem, bin_lss, bin_leq, bin_gtr, bin_geq, bin_eql, bin_neq, un_not, un_neg, builtinv, Option.map_some, Option.map_none, indexAddrv, fieldAddrv, ↓reduceIte, reduceCtorEq, Nat.reduceEqDiff, Nat.reduceAdd, Nat.reduceMul, Nat.add_zero, eq_self, Bool.false_eq_true, Bool.true_eq_false, Bool.not_true, Bool.not_false, beq_self_eq_true, Bool.true_beq, Bool.false_beq, beq_true, beq_false, and_true, true_and, ne_eq, not_false_eq_true, not_true_eq_false, List.cons_append, List.nil_append, List.append_nil, Option.some.injEq, fwd_fwd, decide_true, decide_false, g4, wrap64]
    subst hK
    exact ih (at_ + 1) (by omega) (by omega) (by omega) _ Q (by simp [Env.get_set, g0]) (by simp [Env.get_set, g3]) (by simp [Env.get_set]) (by simp [Env.get_set, g5]) hQ
noncomputable def r8 : Code := codeAt L3 [1,0,0,0,0]
theorem reg8 (l : List (Int × Int)) (R : List (Int × Nat × Nat)) (hR : R.length ≤ 100) (i : Nat) (hi : i < R.length) (f : Fit l R l.length i) (ρ : Env) (s : St) (a b : Addr) (cap capb : Nat) (Q : Xit → Env → St → Prop)
    (hrb : s.rd b (R.length * 3) = some (R.flatMap encR))
    (g0 : ρ.get 0 = .slice (some a) l.length cap) (g3 : ρ.get 3 = .slice (some b) R.length capb) (g4 : ρ.get 4 = .int .i64 (rg R i).2.1) (g5 : ρ.get 5 = .int .i64 i)
    (h : ∀ ρ' : Env, ρ'.get 61 = .bool false → (∀ t, t < 16 → ρ'.get t = ρ.get t) → Q .normal ρ' s) : W X r8 ρ s Q := by
  obtain ⟨q0, q1, q2⟩ := rd_rg hrb i hi
  have n1 : ¬ (((rg R i).2.2 : Int) ≤ (rg R i).2.1) := by have := f.lt; omega
  have n2 : ¬ ((l.length : Int) < (rg R i).2.2) := by have := f.le; omega
  have e : r8 = r8 := rfl
  conv at e => rhs; whnf
  conv => arg 2; rw [e]
  clear e
  refine W_region (by kernel_rfl) (fun K hK => WS_run _ _ _ ?_)
  by_cases h0 : i = 0
  · have n3 : ¬ ((0 : Int) < i) := by omega
    simp -implicitDefEqProofs (disch := omega) only [List.map_cons, List.map_nil, strip1, List.getElem?_toArray, List.getElem?_cons_succ, List.getElem?_cons_zero, Option.bind_some, runP_nil, runP_always, runP_never, runP_on, guardP_true, guardP_false, contP_some, callP_some, afterP_done, afterP_call, P_buildSlice, evParts, retP_some, stP_some, newP_some, pickP_true, pickP_false, P_move, P_assign, P_pick, P_bin, P_un, P_load, P_store, P_nilCheck, P_fieldAddr, P_field, P_indexAddr, P_index, P_slice, P_build, P_convert, P_extract, P_builtin, P_alloc, P_box, P_makeFunc, P_lookup, P_mapUpdate, P_call, P_buildSlice, evParts, put_some, put_none, evo_tmp, evo_const, evo_func, isB_bool, boolOf_bool, tupOf_tuple, funOf_func, of_get, Env.get_set, bin_add, bin_sub, bin_mul, bin_quo, bin_rem, bin_lss, bin_leq, bin_gtr, bin_geq, bin_eql, bin_neq, un_not, un_neg, builtinv, Option.map_some, Option.map_none, indexAddrv, fieldAddrv, ↓reduceIte, reduceCtorEq, Nat.reduceEqDiff, Nat.reduceAdd, Nat.reduceMul, Nat.add_zero, eq_self, Bool.false_eq_true, Bool.true_eq_false, Bool.not_true, Bool.not_false, beq_self_eq_true, Bool.true_beq, Bool.false_beq, beq_true, beq_false, and_true, true_and, ne_eq, not_false_eq_true, not_true_eq_false, List.cons_append, List.nil_append, List.append_nil, Option.some.injEq, fwd_fwd, decide_true, decide_false, g0, g3, g4, g5, ty24, und24, ty27, und27, ty22, und22, ty3, if_and, toNat_cast, loadv, q0, q1, q2, Ty.agg, lenv, n1, n2, n3]
    subst hK
    exact h _ (by simp only [Env.get_set, if_pos]) (fun t ht => by simp (disch := omega) only [Env.get_set, if_neg])
  · have n3 : (0 : Int) < i := by omega
    obtain ⟨p0, p1, p2⟩ := rd_rg hrb (i - 1) (by omega)
    have n4 : ¬ ((rg R (i - 1)).1 = (rg R i).1) := f.ne (by omega)
    simp -implicitDefEqProofs (disch := omega) only [List.map_cons, List.map_nil, strip1, List.getElem?_toArray, List.getElem?_cons_succ, List.getElem?_cons_zero, Option.bind_some, runP_nil, runP_always, runP_never, runP_on, guardP_true, guardP_false, contP_some, callP_some, afterP_done, afterP_call, P_buildSlice, evParts, retP_some, stP_some, newP_some, pickP_true, pickP_false, P_move, P_assign, P_pick, P_bin, P_un, P_load, P_store, P_nilCheck, P_fieldAddr, P_field, P_indexAddr, P_index, P_slice, P_build, P_convert, P_extract, P_builtin, P_alloc, P_box, P_makeFunc, P_lookup, P_mapUpdate, P_call, P_buildSlice, evParts, put_some, put_none, evo_tmp, evo_const, evo_func, isB_bool, boolOf_bool, tupOf_tuple, funOf_func, of_get, Env.get_set, bin_add, bin_sub, bin_mul, bin_quo, bin_rem, bin_lss, bin_leq, bin_gtr, bin_geq, bin_eql, bin_neq, un_not, un_neg, builtinv, Option.map_some, Option.map_none, indexAddrv, fieldAddrv, ↓reduceIte, reduceCtorEq, Nat.reduceEqDiff, Nat.reduceAdd, Nat.reduceMul, Nat.add_zero, eq_self, Bool.false_eq_true, Bool.true_eq_false, Bool.not_true, Bool.not_false, beq_self_eq_true, Bool.true_beq, Bool.false_beq, beq_true, beq_false, and_true, true_and, ne_eq, not_false_eq_true, not_true_eq_false, List.cons_append, List.nil_append, List.append_nil, Option.some.injEq, fwd_fwd, decide_true, decide_false, g0, g3, g4, g5, ty24, und24, ty27, und27, ty22, und22, ty3, if_and, toNat_cast, toNat_sub1, wrap64, loadv, q0, q1, q2, p0, Ty.agg, lenv, n1, n2, n3, n4]
    subst hK
    exact h _ (by simp only [Env.get_set, if_pos]) (fun t ht => by simp (disch := omega) only [Env.get_set, if_neg])
theorem outer3 (l : List (Int × Int)) (hl : l.length ≤ 100) (R : List (Int × Nat × Nat)) (hR : R.length ≤ l.length) (f : ∀ i, i < R.length → Fit l R l.length i) (s : St) (v r : Value) (hv : RoV s 2 v l.length (l.flatMap encS)) (hr : Tip s 27 3 r (R.flatMap encR) R.length) :
    ∀ (d i : Nat), d = R.length - i → i ≤ R.length → ∀ (ρ : Env) (Q : Xit → Env → St → Prop),
      ρ.get 0 = v → ρ.get 3 = r → ρ.get 4 = .int .i64 (endAt R i) → ρ.get 5 = .int .i64 i →
      (∀ ρ' : Env, ρ'.get 0 = v → ρ'.get 4 = .int .i64 (endAt R R.length) → Q (.exit 0) ρ' s) → W X (.loop L3) ρ s Q := by
  intro d
  induction d with
  | zero =>
    intro i hd hi ρ Q g0 g3 g4 g5 hQ
    have : i = R.length := by omega
    subst this
    have e : L3 = L3 := rfl
    conv at e => rhs; whnf
    refine W_loop ?_
    conv => arg 2; rw [e]
    clear e
    refine W_seq (W_seq (W_region (by kernel_rfl) fun K hK => WS_run _ _ _ ?_))
    simp -implicitDefEqProofs (disch := omega) only [List.map_cons, List.map_nil, strip1, List.getElem?_toArray, List.getElem?_cons_succ, List.getElem?_cons_zero, Option.bind_some, runP_nil, runP_always, runP_never, runP_on, guardP_true, guardP_false, contP_some, callP_some, afterP_done, afterP_call, P_buildSlice, evParts, retP_some, stP_some, newP_some, pickP_true, pickP_false, P_move, P_assign, P_pick, P_bin, P_un, P_load, P_store, P_nilCheck, P_fieldAddr, P_field, P_indexAddr, P_index, P_slice, P_build, P_convert, P_extract, P_builtin, P_alloc, P_box, P_makeFunc, P_lookup, P_mapUpdate, P_call, P_buildSlice, evParts, put_some, put_none, evo_tmp, evo_const, evo_func, isB_bool, boolOf_bool, tupOf_tuple, funOf_func, of_get, Env.get_set, bin_add, bin_sub, bin_mul, bin_quo, bin_rem, bin_lss, bin_leq, bin_gtr, bin_geq, bin_eql, bin_neq, un_not, un_neg, builtinv, Option.map_some, Option.map_none, indexAddrv, fieldAddrv, ↓reduceIte, reduceCtorEq, Nat.reduceEqDiff, Nat.reduceAdd, Nat.reduceMul, Nat.add_zero, eq_self, Bool.false_eq_true, Bool.true_eq_false, Bool.not_true, Bool.not_false, beq_self_eq_true, Bool.true_beq, Bool.false_beq, beq_true, beq_false, and_true, true_and, ne_eq, not_false_eq_true, not_true_eq_false, List.cons_append, List.nil_append, List.append_nil, Option.some.injEq, fwd_fwd, decide_true, decide_false, g3, g4, g5, hr.lenv ty24, Int.lt_irrefl]
    subst hK
    refine W_cond_false (by simp only [evo_tmp, Env.get_set, if_pos]) (W_exit ?_)
    exact hQ _ (by simp [Env.get_set, g0]) (by simp [Env.get_set, g4])
  | succ d ih =>
    intro i hd hi ρ Q g0 g3 g4 g5 hQ
    have hi : i < R.length := by omega
    have hiR : (i : Int) < R.length := by omega
    have fi := f i hi
    obtain ⟨a, cap, rfl, hro⟩ := hv.pos (by omega)
    obtain ⟨b, capb, rfl, hrb⟩ := hr.pos (by omega)
    obtain ⟨q0, q1, q2⟩ := rd_rg hrb i hi
    have hfrm := fi.frm
    have hlt := fi.lt
    have hle := fi.le
    rw [← hfrm] at g4
    have n1 : ¬ (((rg R i).2.2 : Int) ≤ (rg R i).2.1) := by omega
    have n2 : ¬ ((l.length : Int) < (rg R i).2.2) := by omega
    have e : L3 = L3 := rfl
    conv at e => rhs; whnf
    refine W_loop ?_
    conv => arg 2; rw [e]
    clear e
    refine W_seq (W_seq (W_region (by kernel_rfl) fun K hK => WS_run _ _ _ ?_))
    simp -implicitDefEqProofs (disch := omega) only [List.map_cons, List.map_nil, strip1, List.getElem?_toArray, List.getElem?_cons_succ, List.getElem?_cons_zero, Option.bind_some, runP_nil, runP_always, runP_never, runP_on, guardP_true, guardP_false, contP_some, callP_some, afterP_done, afterP_call, P_buildSlice, evParts, retP_some, stP_some, newP_some, pickP_true, pickP_false, P_move, P_assign, P_pick, P_bin, P_un, P_load, P_store, P_nilCheck, P_fieldAddr, P_field, P_indexAddr, P_index, P_slice, P_build, P_convert, P_extract, P_builtin, P_alloc, P_box, P_makeFunc, P_lookup, P_mapUpdate, P_call, P_buildSlice, evParts, put_some, put_none, evo_tmp, evo_const, evo_func, isB_bool, boolOf_bool, tupOf_tuple, funOf_func, of_get, Env.get_set, bin_add, bin_sub, bin_mul, bin_quo, bin_rem, bin_lss, bin_leq, bin_gtr, bin_geq, bin_eql, bin_neq, un_not, un_neg, builtinv, Option.map_some, Option.map_none, indexAddrv, fieldAddrv, ↓reduceIte, reduceCtorEq, Nat.reduceEqDiff, Nat.reduceAdd, Nat.reduceMul, Nat.add_zero, eq_self, Bool.false_eq_true, Bool.true_eq_false, Bool.not_true, Bool.not_false, beq_self_eq_true, Bool.true_beq, Bool.false_beq, beq_true, beq_false, and_true, true_and, ne_eq, not_false_eq_true, not_true_eq_false, List.cons_append, List.nil_append, List.append_nil, Option.some.injEq, fwd_fwd, decide_true, decide_false, g3, g4, g5, hr.lenv ty24, hiR]
    subst hK
    refine W_cond_true (by simp only [evo_tmp, Env.get_set, if_pos]) (W_skip ?_)
    refine W_seq (W_block (W_seq (W_seq (reg8 l R (by omega) i hi fi _ s a b cap capb _ hrb (by simp [Env.get_set, g0]) (by simp [Env.get_set, g3]) (by simp [Env.get_set, g4]) (by simp [Env.get_set, g5]) fun ρ' k61 kk => ?_))))
    have k0 : ρ'.get 0 = .slice (some a) l.length cap := by rw [kk 0 (by omega)]; simp [Env.get_set, g0]
    have k3 : ρ'.get 3 = .slice (some b) R.length capb := by rw [kk 3 (by omega)]; simp [Env.get_set, g3]
    have k4 : ρ'.get 4 = .int .i64 (rg R i).2.1 := by rw [kk 4 (by omega)]; simp [Env.get_set, g4]
    have k5 : ρ'.get 5 = .int .i64 i := by rw [kk 5 (by omega)]; simp [Env.get_set, g5]
    refine W_cond_false (by rw [evo_tmp, k61]) (W_skip ?_)
    refine W_block (inner3 l hl R hR i hi fi s a b cap capb hro.rd hrb _ _ rfl (Nat.le_refl _) (by omega) ρ' _ k0 k3 k4 k5 fun ρ2 m0 m3 m4 m5 => ?_)
    refine W_region (by kernel_rfl) fun K hK => WS_run _ _ _ ?_
    simp -implicitDefEqProofs (disch := omega) only [List.map_cons, List.map_nil, strip1, List.getElem?_toArray, List.getElem?_cons_succ, List.getElem?_cons_zero, Option.bind_some, runP_nil, runP_always, runP_never, runP_on, guardP_true, guardP_false, contP_some, callP_some, afterP_done, afterP_call, P_buildSlice, evParts, retP_some, stP_some, newP_some, pickP_true, pickP_false, P_move, P_assign, P_pick, P_bin, P_un, P_load, P_store, P_nilCheck, P_fieldAddr, P_field, P_indexAddr, P_index, P_slice, P_build, P_convert, P_extract, P_builtin, P_alloc, P_box, P_makeFunc, P_lookup, P_mapUpdate, P_call, P_buildSlice, evParts, put_some, put_none, evo_tmp, evo_const, evo_func, isB_bool, boolOf_bool, tupOf_tuple, funOf_func, of_get, Env.get_set, bin_add, bin_sub, bin_mul, bin_quo, bin_rem, bin_lss, bin_leq, bin_gtr, bin_geq, bin_eql, bin_neq, un_not, un_neg, builtinv, Option.map_some, Option.map_none, indexAddrv, fieldAddrv, ↓reduceIte, reduceCtorEq, Nat.reduceEqDiff, Nat.reduceAdd, Nat.reduceMul, Nat.add_zero, eq_self, Bool.false_eq_true, Bool.true_eq_false, Bool.not_true, Bool.not_false, beq_self_eq_true, Bool.true_beq, Bool.false_beq, beq_true, beq_false, and_true, true_and, ne_eq, not_false_eq_true, not_true_eq_false, List.cons_append, List.nil_append, List.append_nil, Option.some.injEq, fwd_fwd, decide_true, decide_false, m5, wrap64]
    subst hK
    refine ih (i + 1) (by omega) (by omega) _ Q ?_ ?_ ?_ ?_ hQ
    · simp [Env.get_set, m0]
    · simp [Env.get_set, m3]
    · simp [Env.get_set, m4, endAt]
    · simp [Env.get_set]
theorem law3 {l : List (Int × Int)} {v : Value} {s : St} (hv : RoV s 2 v l.length (l.flatMap encS)) : WC X 3 [v] s fun r s' => r = .bool true := by
  refine WC_enter (fn := Try.f3) (c := bodyOf Try.f3) rfl rfl rfl (by show 1 ≤ Try.f3.ntmps; decide) ?_
  have e : bodyOf Try.f3 = bodyOf Try.f3 := rfl
  conv at e => rhs; whnf
  conv => arg 2; rw [e]
  clear e
  refine W_seq (W_region (by kernel_rfl) fun K hK => WS_run _ _ _ ?_)
  simp -implicitDefEqProofs (disch := omega) only [List.map_cons, List.map_nil, strip1, List.getElem?_toArray, List.getElem?_cons_succ, List.getElem?_cons_zero, Option.bind_some, runP_nil, runP_always, runP_never, runP_on, guardP_true, guardP_false, contP_some, callP_some, afterP_done, afterP_call, P_buildSlice, evParts, retP_some, stP_some, newP_some, pickP_true, pickP_false, P_move, P_assign, P_pick, P_bin, P_un, P_load, P_store, P_nilCheck, P_fieldAddr, P_field, P_indexAddr, P_index, P_slice, P_build, P_convert, P_extract, P_builtin, P_alloc, P_box, P_makeFunc, P_lookup, P_mapUpdate, P_call, P_buildSlice, evParts, put_some, put_none, evo_tmp, evo_const, evo_func, isB_bool, boolOf_bool, tupOf_tuple, funOf_func, of_get, Env.get_set, bin_add, bin_sub, bin_mul, bin_quo, bin_rem, bin_lss, bin_leq, bin_gtr, bin_geq, bin_eql, bin_neq, un_not, un_neg, builtinv, Option.map_some, Option.map_none, indexAddrv, fieldAddrv, ↓reduceIte, reduceCtorEq, Nat.reduceEqDiff, Nat.reduceAdd, Nat.reduceMul, Nat.add_zero, eq_self, Bool.false_eq_true, Bool.true_eq_false, Bool.not_true, Bool.not_false, beq_self_eq_true, Bool.true_beq, Bool.false_beq, beq_true, beq_false, and_true, true_and, ne_eq, not_false_eq_true, not_true_eq_false, List.cons_append, List.nil_append, List.append_nil, Option.some.injEq, fwd_fwd, decide_true, decide_false]
  subst hK
  refine W_seq (W_seq (W_region (by kernel_rfl) fun K hK => WS_run _ _ _ ?_))
  simp -implicitDefEqProofs (disch := omega) only [List.map_cons, List.map_nil, strip1, List.getElem?_toArray, List.getElem?_cons_succ, List.getElem?_cons_zero, Option.bind_some, runP_nil, runP_always, runP_never, runP_on, guardP_true, guardP_false, contP_some, callP_some, afterP_done, afterP_call, P_buildSlice, evParts, retP_some, stP_some, newP_some, pickP_true, pickP_false, P_move, P_assign, P_pick, P_bin, P_un, P_load, P_store, P_nilCheck, P_fieldAddr, P_field, P_indexAddr, P_index, P_slice, P_build, P_convert, P_extract, P_builtin, P_alloc, P_box, P_makeFunc, P_lookup, P_mapUpdate, P_call, P_buildSlice, evParts, put_some, put_none, evo_tmp, evo_const, evo_func, isB_bool, boolOf_bool, tupOf_tuple, funOf_func, of_get, Env.get_set, bin_add, bin_sub, bin_mul, bin_quo, bin_rem, bin_lss, bin_leq, bin_gtr, bin_geq, bin_eql, bin_neq, un_not, un_neg, builtinv, Option.map_some, Option.map_none, indexAddrv, fieldAddrv, ↓reduceIte, reduceCtorEq, Nat.reduceEqDiff, Nat.reduceAdd, Nat.reduceMul, Nat.add_zero, eq_self, Bool.false_eq_true, Bool.true_eq_false, Bool.not_true, Bool.not_false, beq_self_eq_true, Bool.true_beq, Bool.false_beq, beq_true, beq_false, and_true, true_and, ne_eq, not_false_eq_true, not_true_eq_false, List.cons_append, List.nil_append, List.append_nil, Option.some.injEq, fwd_fwd, decide_true, decide_false, List.getD_cons_zero, hv.len ty22]
  subst hK
  by_cases hl : (100 : Int) < l.length
  · refine W_cond_true (by simp only [evo_tmp, Env.get_set, if_pos, hl, decide_true]) ?_
    refine W_seq (W_region (by kernel_rfl) fun K hK => WS_run _ _ _ ?_)
    simp -implicitDefEqProofs (disch := omega) only [List.map_cons, List.map_nil, strip1, List.getElem?_toArray, List.getElem?_cons_succ, List.getElem?_cons_zero, Option.bind_some, runP_nil, runP_always, runP_never, runP_on, guardP_true, guardP_false, contP_some, callP_some, afterP_done, afterP_call, P_buildSlice, evParts, retP_some, stP_some, newP_some, pickP_true, pickP_false, P_move, P_assign, P_pick, P_bin, P_un, P_load, P_store, P_nilCheck, P_fieldAddr, P_field, P_indexAddr, P_index, P_slice, P_build, P_convert, P_extract, P_builtin, P_alloc, P_box, P_makeFunc, P_lookup, P_mapUpdate, P_call, P_buildSlice, evParts, put_some, put_none, evo_tmp, evo_const, evo_func, isB_bool, boolOf_bool, tupOf_tuple, funOf_func, of_get, Env.get_set, bin_add, bin_sub, bin_mul, bin_quo, bin_rem, bin_lss, bin_leq, bin_gtr, bin_geq, bin_eql, bin_neq, un_not, un_neg, builtinv, Option.map_some, Option.map_none, indexAddrv, fieldAddrv, ↓reduceIte, reduceCtorEq, Nat.reduceEqDiff, Nat.reduceAdd, Nat.reduceMul, Nat.add_zero, eq_self, Bool.false_eq_true, Bool.true_eq_false, Bool.not_true, Bool.not_false, beq_self_eq_true, Bool.true_beq, Bool.false_beq, beq_true, beq_false, and_true, true_and, ne_eq, not_false_eq_true, not_true_eq_false, List.cons_append, List.nil_append, List.append_nil, Option.some.injEq, fwd_fwd, decide_true, decide_false]
    refine WC_known (v := .bool true) rfl rfl rfl ?_
    refine WS_run _ _ _ ?_
    simp -implicitDefEqProofs (disch := omega) only [List.map_cons, List.map_nil, strip1, List.getElem?_toArray, List.getElem?_cons_succ, List.getElem?_cons_zero, Option.bind_some, runP_nil, runP_always, runP_never, runP_on, guardP_true, guardP_false, contP_some, callP_some, afterP_done, afterP_call, P_buildSlice, evParts, retP_some, stP_some, newP_some, pickP_true, pickP_false, P_move, P_assign, P_pick, P_bin, P_un, P_load, P_store, P_nilCheck, P_fieldAddr, P_field, P_indexAddr, P_index, P_slice, P_build, P_convert, P_extract, P_builtin, P_alloc, P_box, P_makeFunc, P_lookup, P_mapUpdate, P_call, P_buildSlice, evParts, put_some, put_none, evo_tmp, evo_const, evo_func, isB_bool, boolOf_bool, tupOf_tuple, funOf_func, of_get, Env.get_set, bin_add, bin_sub, bin_mul, bin_quo, bin_rem, bin_lss, bin_leq, bin_gtr, bin_geq, bin_eql, bin_neq, un_not, un_neg, builtinv, Option.map_some, Option.map_none, indexAddrv, fieldAddrv, ↓reduceIte, reduceCtorEq, Nat.reduceEqDiff, Nat.reduceAdd, Nat.reduceMul, Nat.add_zero, eq_self, Bool.false_eq_true, Bool.true_eq_false, Bool.not_true, Bool.not_false, beq_self_eq_true, Bool.true_beq, Bool.false_beq, beq_true, beq_false, and_true, true_and, ne_eq, not_false_eq_true, not_true_eq_false, List.cons_append, List.nil_append, List.append_nil, Option.some.injEq, fwd_fwd, decide_true, decide_false]
    subst hK
    refine W_ret ?_
    refine ⟨_, rfl, ?_⟩
    simp [Env.get_set, resv, tupv]
  · refine W_cond_false (by simp only [evo_tmp, Env.get_set, if_pos, hl, decide_false]) (W_skip ?_)
    have hl : l.length ≤ 100 := by omega
    refine W_seq (W_region (by kernel_rfl) fun K hK => WS_run _ _ _ ?_)
    simp -implicitDefEqProofs (disch := omega) only [List.map_cons, List.map_nil, strip1, List.getElem?_toArray, List.getElem?_cons_succ, List.getElem?_cons_zero, Option.bind_some, runP_nil, runP_always, runP_never, runP_on, guardP_true, guardP_false, contP_some, callP_some, afterP_done, afterP_call, P_buildSlice, evParts, retP_some, stP_some, newP_some, pickP_true, pickP_false, P_move, P_assign, P_pick, P_bin, P_un, P_load, P_store, P_nilCheck, P_fieldAddr, P_field, P_indexAddr, P_index, P_slice, P_build, P_convert, P_extract, P_builtin, P_alloc, P_box, P_makeFunc, P_lookup, P_mapUpdate, P_call, P_buildSlice, evParts, put_some, put_none, evo_tmp, evo_const, evo_func, isB_bool, boolOf_bool, tupOf_tuple, funOf_func, of_get, Env.get_set, bin_add, bin_sub, bin_mul, bin_quo, bin_rem, bin_lss, bin_leq, bin_gtr, bin_geq, bin_eql, bin_neq, un_not, un_neg, builtinv, Option.map_some, Option.map_none, indexAddrv, fieldAddrv, ↓reduceIte, reduceCtorEq, Nat.reduceEqDiff, Nat.reduceAdd, Nat.reduceMul, Nat.add_zero, eq_self, Bool.false_eq_true, Bool.true_eq_false, Bool.not_true, Bool.not_false, beq_self_eq_true, Bool.true_beq, Bool.false_beq, beq_true, beq_false, and_true, true_and, ne_eq, not_false_eq_true, not_true_eq_false, List.cons_append, List.nil_append, List.append_nil, Option.some.injEq, fwd_fwd, decide_true, decide_false, List.getD_cons_zero]
    refine runs_ok hl hv fun r s' R t1 t2 t3 t4 => ?_
    refine WS_run _ _ _ ?_
    simp -implicitDefEqProofs (disch := omega) only [List.map_cons, List.map_nil, strip1, List.getElem?_toArray, List.getElem?_cons_succ, List.getElem?_cons_zero, Option.bind_some, runP_nil, runP_always, runP_never, runP_on, guardP_true, guardP_false, contP_some, callP_some, afterP_done, afterP_call, P_buildSlice, evParts, retP_some, stP_some, newP_some, pickP_true, pickP_false, P_move, P_assign, P_pick, P_bin, P_un, P_load, P_store, P_nilCheck, P_fieldAddr, P_field, P_indexAddr, P_index, P_slice, P_build, P_convert, P_extract, P_builtin, P_alloc, P_box, P_makeFunc, P_lookup, P_mapUpdate, P_call, P_buildSlice, evParts, put_some, put_none, evo_tmp, evo_const, evo_func, isB_bool, boolOf_bool, tupOf_tuple, funOf_func, of_get, Env.get_set, bin_add, bin_sub, bin_mul, bin_quo, bin_rem, bin_lss, bin_leq, bin_gtr, bin_geq, bin_eql, bin_neq, un_not, un_neg, builtinv, Option.map_some, Option.map_none, indexAddrv, fieldAddrv, ↓reduceIte, reduceCtorEq, Nat.reduceEqDiff, Nat.reduceAdd, Nat.reduceMul, Nat.add_zero, eq_self, Bool.false_eq_true, Bool.true_eq_false, Bool.not_true, Bool.not_false, beq_self_eq_true, Bool.true_beq, Bool.false_beq, beq_true, beq_false, and_true, true_and, ne_eq, not_false_eq_true, not_true_eq_false, List.cons_append, List.nil_append, List.append_nil, Option.some.injEq, fwd_fwd, decide_true, decide_false]
    subst hK
    refine W_seq (W_region (by kernel_rfl) fun K hK => WS_run _ _ _ ?_)
    simp -implicitDefEqProofs (disch := omega) only [List.map_cons, List.map_nil, strip1, List.getElem?_toArray, List.getElem?_cons_succ, List.getElem?_cons_zero, Option.bind_some, runP_nil, runP_always, runP_never, runP_on, guardP_true, guardP_false, contP_some, callP_some, afterP_done, afterP_call, P_buildSlice, evParts, retP_some, stP_some, newP_some, pickP_true, pickP_false, P_move, P_assign, P_pick, P_bin, P_un, P_load, P_store, P_nilCheck, P_fieldAddr, P_field, P_indexAddr, P_index, P_slice, P_build, P_convert, P_extract, P_builtin, P_alloc, P_box, P_makeFunc, P_lookup, P_mapUpdate, P_call, P_buildSlice, evParts, put_some, put_none, evo_tmp, evo_const, evo_func, isB_bool, boolOf_bool, tupOf_tuple, funOf_func, of_get, Env.get_set, bin_add, bin_sub, bin_mul, bin_quo, bin_rem, bin_lss, bin_leq, bin_gtr, bin_geq, bin_eql, bin_neq, un_not, un_neg, builtinv, Option.map_some, Option.map_none, indexAddrv, fieldAddrv, ↓reduceIte, reduceCtorEq, Nat.reduceEqDiff, Nat.reduceAdd, Nat.reduceMul, Nat.add_zero, eq_self, Bool.false_eq_true, Bool.true_eq_false, Bool.not_true, Bool.not_false, beq_self_eq_true, Bool.true_beq, Bool.false_beq, beq_true, beq_false, and_true, true_and, ne_eq, not_false_eq_true, not_true_eq_false, List.cons_append, List.nil_append, List.append_nil, Option.some.injEq, fwd_fwd, decide_true, decide_false]
    subst hK
    refine W_seq (W_seq (W_region (by kernel_rfl) fun K hK => WS_run _ _ _ ?_))
    simp -implicitDefEqProofs (disch := omega) only [List.map_cons, List.map_nil, strip1, List.getElem?_toArray, List.getElem?_cons_succ, List.getElem?_cons_zero, Option.bind_some, runP_nil, runP_always, runP_never, runP_on, guardP_true, guardP_false, contP_some, callP_some, afterP_done, afterP_call, P_buildSlice, evParts, retP_some, stP_some, newP_some, pickP_true, pickP_false, P_move, P_assign, P_pick, P_bin, P_un, P_load, P_store, P_nilCheck, P_fieldAddr, P_field, P_indexAddr, P_index, P_slice, P_build, P_convert, P_extract, P_builtin, P_alloc, P_box, P_makeFunc, P_lookup, P_mapUpdate, P_call, P_buildSlice, evParts, put_some, put_none, evo_tmp, evo_const, evo_func, isB_bool, boolOf_bool, tupOf_tuple, funOf_func, of_get, Env.get_set, bin_add, bin_sub, bin_mul, bin_quo, bin_rem, bin_lss, bin_leq, bin_gtr, bin_geq, bin_eql, bin_neq, un_not, un_neg, builtinv, Option.map_some, Option.map_none, indexAddrv, fieldAddrv, ↓reduceIte, reduceCtorEq, Nat.reduceEqDiff, Nat.reduceAdd, Nat.reduceMul, Nat.add_zero, eq_self, Bool.false_eq_true, Bool.true_eq_false, Bool.not_true, Bool.not_false, beq_self_eq_true, Bool.true_beq, Bool.false_beq, beq_true, beq_false, and_true, true_and, ne_eq, not_false_eq_true, not_true_eq_false, List.cons_append, List.nil_append, List.append_nil, Option.some.injEq, fwd_fwd, decide_true, decide_false]
    subst hK
    obtain ⟨f1, f2⟩ := fits _ _ t3.parts
    rw [List.reverse_reverse, List.length_reverse] at f2
    have f1 : ∀ i, i < R.length → Fit l R l.length i := fun i hi => by
      have := f1 i (by simpa using hi)
      rwa [List.reverse_reverse] at this
    have hv' := hv.keep t2
    refine W_block (outer3 l hl R t4 f1 s' v r hv' t1 R.length 0 rfl (by omega) _ _ ?_ ?_ ?_ ?_ fun ρ' k0 k4 => ?_)
    · simp [Env.get_set, of_get]
    · simp [Env.get_set]
    · simp [Env.get_set, endAt]
    · simp [Env.get_set]
    · rw [f2] at k4
      refine W_seq (W_region (by kernel_rfl) fun K hK => WS_run _ _ _ ?_)
      simp -implicitDefEqProofs (disch := omega) only [List.map_cons, List.map_nil, strip1, List.getElem?_toArray, List.getElem?_cons_succ, List.getElem?_cons_zero, Option.bind_some, runP_nil, runP_always, runP_never, runP_on, guardP_true, guardP_false, contP_some, callP_some, afterP_done, afterP_call, P_buildSlice, evParts, retP_some, stP_some, newP_some, pickP_true, pickP_false, P_move, P_assign, P_pick, P_bin, P_un, P_load, P_store, P_nilCheck, P_fieldAddr, P_field, P_indexAddr, P_index, P_slice, P_build, P_convert, P_extract, P_builtin, P_alloc, P_box, P_makeFunc, P_lookup, P_mapUpdate, P_call, P_buildSlice, evParts, put_some, put_none, evo_tmp, evo_const, evo_func, isB_bool, boolOf_bool, tupOf_tuple, funOf_func, of_get, Env.get_set, bin_add, bin_sub, bin_mul, bin_quo, bin_rem, bin_lss, bin_leq, bin_gtr, bin_geq, bin_eql, bin_neq, un_not, un_neg, builtinv, Option.map_some, Option.map_none, indexAddrv, fieldAddrv, ↓reduceIte, reduceCtorEq, Nat.reduceEqDiff, Nat.reduceAdd, Nat.reduceMul, Nat.add_zero, eq_self, Bool.false_eq_true, Bool.true_eq_false, Bool.not_true, Bool.not_false, beq_self_eq_true, Bool.true_beq, Bool.false_beq, beq_true, beq_false, and_true, true_and, ne_eq, not_false_eq_true, not_true_eq_false, List.cons_append, List.nil_append, List.append_nil, Option.some.injEq, fwd_fwd, decide_true, decide_false]
      refine WC_known (v := .bool true) rfl rfl rfl ?_
      refine WS_run _ _ _ ?_
      simp -implicitDefEqProofs (disch := omega) only [List.map_cons, List.map_nil, strip1, List.getElem?_toArray, List.getElem?_cons_succ, List.getElem?_cons_zero, Option.bind_some, runP_nil, runP_always, runP_never, runP_on, guardP_true, guardP_false, contP_some, callP_some, afterP_done, afterP_call, P_buildSlice, evParts, retP_some, stP_some, newP_some, pickP_true, pickP_false, P_move, P_assign, P_pick, P_bin, P_un, P_load, P_store, P_nilCheck, P_fieldAddr, P_field, P_indexAddr, P_index, P_slice, P_build, P_convert, P_extract, P_builtin, P_alloc, P_box, P_makeFunc, P_lookup, P_mapUpdate, P_call, P_buildSlice, evParts, put_some, put_none, evo_tmp, evo_const, evo_func, isB_bool, boolOf_bool, tupOf_tuple, funOf_func, of_get, Env.get_set, bin_add, bin_sub, bin_mul, bin_quo, bin_rem, bin_lss, bin_leq, bin_gtr, bin_geq, bin_eql, bin_neq, un_not, un_neg, builtinv, Option.map_some, Option.map_none, indexAddrv, fieldAddrv, ↓reduceIte, reduceCtorEq, Nat.reduceEqDiff, Nat.reduceAdd, Nat.reduceMul, Nat.add_zero, eq_self, Bool.false_eq_true, Bool.true_eq_false, Bool.not_true, Bool.not_false, beq_self_eq_true, Bool.true_beq, Bool.false_beq, beq_true, beq_false, and_true, true_and, ne_eq, not_false_eq_true, not_true_eq_false, List.cons_append, List.nil_append, List.append_nil, Option.some.injEq, fwd_fwd, decide_true, decide_false, k0, k4, hv'.len ty22]
      subst hK
      refine W_ret ?_
      refine ⟨_, rfl, ?_⟩
      simp [Env.get_set, resv, tupv]
end Go.Proofs.Ytndedkpcfjnecaa.Ab
