/- All operations that are no call of a Go function, in one theorem. -/
import Derived.Test.YtndedkpcfjnecaaA9
set_option linter.unusedSimpArgs false
set_option linter.unusedVariables false
namespace Go.Proofs.Ytndedkpcfjnecaa.Ab

def Done (X : Prg) (φ : Phi) (s : St) (w : World) (v : Value) (s' : St) (r : Result Next) : Prop :=
  ∃ φ' v' n w', r = .ok n w' ∧ (n = .value v' ∨ (n = .skip ∧ v' = undef)) ∧ VRel φ' v v' ∧ SRel X φ' s'.get w' ∧ Step φ φ' s s' w w'

theorem VRel.inv_bool {φ : Phi} {b : Bool} {v' : Value} (h : VRel φ (.bool b) v') : v' = .bool b := by cases h; rfl
theorem VRel.inv_int {φ : Phi} {k : IntKind} {n : Int} {v' : Value} (h : VRel φ (.int k n) v') : v' = .int k n := by cases h; rfl
theorem VRel.inv_string {φ : Phi} {b : ByteArray} {v' : Value} (h : VRel φ (.string b) v') : v' = .string b := by cases h; rfl
theorem VRel.inv_nilSlice {φ : Phi} {v' : Value} (h : VRel φ (.slice none 0 0) v') : v' = .slice none 0 0 := by cases h; rfl
section
variable {X : Prg} {P : Program} (H : Sound X P) {φ : Phi} {s : St} {w : World}

theorem Done.quiet {v v' : Value} {r : Result Next} (hs : SRel X φ s.get w) (hr : r = .ok (.value v') w) (hv : VRel φ v v') : Done X φ s w v s r :=
  ⟨φ, v', _, w, hr, .inl rfl, hv, hs, Step.refl _ _ _⟩
theorem Done.unit {s' : St} {w' : World} {r : Result Next} (hr : r = .ok .skip w') (hs : SRel X φ s'.get w') (hst : Step φ φ s s' w w') : Done X φ s w undef s' r :=
  ⟨φ, undef, _, w', hr, .inr ⟨rfl, rfl⟩, .tuple _ _ .nil, hs, hst⟩

include H
theorem alloc_run {t : Nat} {ty : Ty} (hty : X.ty t = some ty) (hs : SRel X φ s.get w) (hf : Fresh φ s.size (s.size + 1)) :
    ∃ φ' v' w', (Instr.alloc t true (.tuple #[])).run P w = .ok v' w' ∧ VRel φ' (ptr s.size 0) v' ∧ SRel X φ' (s.push (.own ⟨ty.zero.cells.toList, t, 0, 0, false⟩)).get w' ∧ Step φ φ' s (s.push (.own ⟨ty.zero.cells.toList, t, 0, 0, false⟩)) w w' := by
  have hz := H.zero _ _ hty
  obtain ⟨k1, k2⟩ := new_row (str := false) (fr := (0, 0)) hs hty hf (VRel.cst 2 _ hz.1).cells (rest := []) (w' := w.alloc (.cells ty.zero.cells t)) (by simp [World.alloc, -World.alloc_eq]) (fun _ => rfl) rfl rfl rfl
  refine ⟨_, _, _, ?_, VRel.ptr ⟨s.size, 0, none⟩ _ (Phi.ext_same _ _ _ _), k1, k2⟩
  simp [Instr.alloc, run_zero H w hty, newVar, Go.newRow]
omit H in
theorem box_run {t : Nat} {ty : Ty} {v v' : Value} (hty : X.ty t = some ty) (hv : VRel φ v v') (hs : SRel X φ s.get w) (hf : Fresh φ s.size (s.size + 1)) :
    ∃ φ' u' w', (Instr.box t v').run P w = .ok u' w' ∧ VRel φ' (ptr s.size 0) u' ∧ SRel X φ' (s.push (.own ⟨v.cells.toList, t, 0, 0, false⟩)).get w' ∧ Step φ φ' s (s.push (.own ⟨v.cells.toList, t, 0, 0, false⟩)) w w' := by
  obtain ⟨k1, k2⟩ := new_row (str := false) (fr := (0, 0)) hs hty hf hv.cells (rest := []) (w' := w.alloc (.cells v'.cells t)) (by simp [World.alloc, -World.alloc_eq]) (fun _ => rfl) rfl rfl rfl
  refine ⟨_, _, _, ?_, VRel.ptr ⟨s.size, 0, none⟩ _ (Phi.ext_same _ _ _ _), k1, k2⟩
  simp [Instr.box, newVar, Go.newRow]
theorem buildSlice_run {t e n : Nat} {te : Ty} {ps : List (Nat × Value)} {ps' : Array (Nat × Value)} {cs : Array Value} (hu : X.und t = some (.slice e)) (hte : X.ty e = some te) (hsm : n * te.size ≤ 65536)
    (h : Instr.fill (fun i => some (i * te.size, te.size)) (reps te.zero.cells.toList n).toArray ps = some cs) (hn : ps.map (·.1) = ps'.toList.map (·.1)) (hv : VRels φ (ps.map (·.2)) (ps'.toList.map (·.2)))
    (hs : SRel X φ s.get w) (hf : Fresh φ s.size (s.size + 1)) :
    ∃ φ' u' w', (Instr.buildSlice t n ps').run P w = .ok u' w' ∧ VRel φ' (.slice (some ⟨s.size, 0, none⟩) n (capX n)) u' ∧ SRel X φ' (s.push (.own ⟨cs.toList, e, 0, 0, false⟩)).get w' ∧ Step φ φ' s (s.push (.own ⟨cs.toList, e, 0, 0, false⟩)) w w' := by
  have hz := H.zero _ _ hte
  have hzv : VRels φ (reps te.zero.cells.toList n) (reps te.zero.cells.toList n) := reps_rel (VRel.cst 2 _ hz.1).cells n
  obtain ⟨cs', h1, h2⟩ := fill_rel (φ := φ) ps ps'.toList (reps te.zero.cells.toList n).toArray (reps te.zero.cells.toList n).toArray cs hn hv (by simpa using hzv) h
  obtain ⟨k1, k2⟩ := new_row (str := false) (fr := (0, 0)) hs hte hf h2 (rest := []) (w' := w.alloc (.cells cs' e)) (by simp [World.alloc, -World.alloc_eq]) (fun _ => rfl) rfl rfl rfl
  refine ⟨_, _, _, ?_, VRel.slice ⟨s.size, 0, none⟩ _ _ _ _ n (Phi.ext_same _ _ _ _) (.inl rfl) (Nat.le_refl _) ?_ ?_ ?_, k1, k2⟩
  · have hu' := run_ud H w hu
    have hs' := run_size H w hte
    have hzr := run_zero H w hte
    have hr0 : ∀ (f : Nat → Value), Array.map f (Array.range 0) = #[] := fun _ => by apply Array.ext'; simp
    have hsm2 : ¬ (16777216 < n * te.size) := by omega
    by_cases h9 : n * te.size = 0
    · have : reps te.zero.cells.toList n = [] := List.eq_nil_of_length_eq_zero (by rw [reps_length]; simp [hz.2.1, h9])
      rw [this] at h1
      simp [Instr.buildSlice, hu', hs', h9, hr0, h1, Go.newRow]
    · have e1 : (Array.range (n * te.size)).map (fun x => te.zero.cells[x % te.zero.cells.size]!) = (reps te.zero.cells.toList n).toArray := by
        apply Array.ext'; rw [← hz.2.1, zero_reps]
      simp [Instr.buildSlice, hu', hs', h9, hsm2, hzr, e1, h1, Go.newRow]
  · unfold capX; intro; omega
  · unfold capX; omega
  · unfold capX; intro h; omega
theorem makeSlice_run {t e : Nat} {te : Ty} {n m : Int} {k k' : IntKind} (hu : X.und t = some (.slice e)) (hte : X.ty e = some te) (h0 : 0 ≤ n) (h1 : n ≤ m) (hroom : roomOk m.toNat te.bytes = true) (hs : SRel X φ s.get w) (hf : Fresh φ s.size (s.size + 1)) :
    ∃ φ' u' w', (Instr.makeSlice t (.int k n) (.int k' m)).run P w = .ok u' w' ∧ VRel φ' (.slice (some ⟨s.size, 0, none⟩) n.toNat (capX m.toNat)) u' ∧ SRel X φ' (s.push (.own ⟨reps te.zero.cells.toList m.toNat, e, 0, 0, false⟩)).get w' ∧
      Step φ φ' s (s.push (.own ⟨reps te.zero.cells.toList m.toNat, e, 0, 0, false⟩)) w w' := by
  have hz := H.zero _ _ hte
  obtain ⟨i, hi, hi1, hi2, hi3⟩ := run_inf H w hte
  simp only [roomOk, Bool.and_eq_true, decide_eq_true_eq] at hroom
  have hwn : IntKind.i64.wrap n = n := wrap_small h0 (by omega)
  have hwm : IntKind.i64.wrap m = m := wrap_small (by omega) (by omega)
  have hb : ¬ ((i.bytes : Int) * m > 2 ^ 48) := by
    rw [hi2]
    have h3 : m = (m.toNat : Int) := by omega
    rw [h3, ← Int.natCast_mul, Nat.mul_comm]
    have := Int.ofNat_le.2 hroom.1
    have h4 : ((m.toNat * te.bytes : Nat) : Int) ≤ 70368744177664 := this
    omega
  have hzv : VRels φ (reps te.zero.cells.toList m.toNat) (reps te.zero.cells.toList m.toNat) := reps_rel (VRel.cst 2 _ hz.1).cells _
  obtain ⟨k1, k2⟩ := new_row (str := false) (fr := (0, 0)) hs hte hf hzv (rest := []) (w' := w.alloc (.cells (reps te.zero.cells.toList m.toNat).toArray e)) (by simp [World.alloc, -World.alloc_eq]) (fun _ => rfl) rfl rfl rfl
  refine ⟨_, _, _, ?_, VRel.slice ⟨s.size, 0, none⟩ _ _ _ _ m.toNat (Phi.ext_same _ _ _ _) (.inl rfl) (by omega) ?_ ?_ ?_, k1, k2⟩
  · have hu' := run_ud H w hu
    have hs' := run_size H w hte
    have hzr := run_zero H w hte
    have hr0 : ∀ (f : Nat → Value), Array.map f (Array.range 0) = #[] := fun _ => by apply Array.ext'; simp
    have c1 : ¬ m < 0 := by omega
    have c2 : ¬ n < 0 := by omega
    have c3 : ¬ m < n := by omega
    have c4 : ¬ (281474976710656 < (i.bytes : Int) * m) := by simpa using hb
    by_cases h9 : m.toNat * te.size = 0
    · have : reps te.zero.cells.toList m.toNat = [] := List.eq_nil_of_length_eq_zero (by rw [reps_length]; simp [hz.2.1, h9])
      simp [Instr.makeSlice, hu', hs', asInt, asIntOf, hi, hwn, hwm, c1, c2, c3, c4, h9, this, hr0, Go.newRow]
    · have e1 : (Array.range (m.toNat * te.size)).map (fun x => te.zero.cells[x % te.zero.cells.size]!) = (reps te.zero.cells.toList m.toNat).toArray := by
        apply Array.ext'; rw [← hz.2.1, zero_reps]
      simp [Instr.makeSlice, hu', hs', asInt, asIntOf, hi, hwn, hwm, c1, c2, c3, c4, h9, hzr, e1, Go.newRow]
  · unfold capX; intro; omega
  · unfold capX; omega
  · unfold capX; intro h; omega

theorem aop_sound (o : Oper) {ev ev' : Operand → Value} {v : Value} {s' : St} (h : aop X ev o.op s = some (v, s')) (hev : ∀ x ∈ o.op.operands, VRel φ (ev x) (ev' x)) (hs : SRel X φ s.get w) (hf : Fresh φ s.size s'.size) :
    Done X φ s w v s' ((execOp ev' o).run P w) := by
  obtain ⟨dst, op, type, pos, after, guard⟩ := o
  simp only at h hev
  have partsRel : ∀ ps : Array (Nat × Operand), (∀ x ∈ (ps.toList.map (·.2)).toArray, VRel φ (ev x) (ev' x)) → (evParts ev ps).map (·.1) = (ps.map fun (i, x) => (i, ev' x)).toList.map (·.1) ∧ VRels φ ((evParts ev ps).map (·.2)) ((ps.map fun (i, x) => (i, ev' x)).toList.map (·.2)) := by
    intro ps hp
    constructor
    · simp [evParts]
    · simp only [evParts, List.map_map, Array.toList_map]
      refine VRels.map _ _ _ fun x hx => hp x.2 ?_
      simp only [List.mem_toArray, List.mem_map]
      exact ⟨x, hx, rfl⟩
  have optRel : ∀ o : Option Operand, (∀ x ∈ o.toArray, VRel φ (ev x) (ev' x)) → OptRel φ (o.map ev) (o.map ev') := by
    intro o ho
    cases o with
    | none => exact .none
    | some x => exact .some _ _ (ho x (by simp))
  cases op with
  | move x =>
    simp only [aop, Option.some.injEq, Prod.mk.injEq] at h
    obtain ⟨rfl, rfl⟩ := h
    exact Done.quiet hs rfl (hev x (by simp [Op.operands]))
  | assign x =>
    simp only [aop, Option.some.injEq, Prod.mk.injEq] at h
    obtain ⟨rfl, rfl⟩ := h
    exact Done.quiet hs rfl (hev x (by simp [Op.operands]))
  | pick c a b =>
    simp only [aop] at h
    split at h
    · rename_i t ht
      simp only [Option.some.injEq, Prod.mk.injEq] at h
      obtain ⟨rfl, rfl⟩ := h
      have hc := hev c (by simp [Op.operands])
      rw [ht] at hc
      have hc2 := hc.inv_bool
      refine Done.quiet hs (v' := if t then ev' a else ev' b) ?_ ?_
      · simp [execOp, hc2, asBool]
      · cases t
        · exact hev b (by simp [Op.operands])
        · exact hev a (by simp [Op.operands])
    · cases h
  | alloc t =>
    simp only [aop] at h
    split at h
    · rename_i ty hty
      simp only [Option.some.injEq, Prod.mk.injEq] at h
      obtain ⟨rfl, rfl⟩ := h
      obtain ⟨φ', v', w', h1, h2, h3, h4⟩ := alloc_run H hty hs (by simpa [St.size_push] using hf)
      exact ⟨φ', v', _, w', by simp [execOp, h1], .inl rfl, h2, h3, h4⟩
    · cases h
  | box t x =>
    simp only [aop] at h
    split at h
    · rename_i ty hty
      simp only [Option.some.injEq, Prod.mk.injEq] at h
      obtain ⟨rfl, rfl⟩ := h
      obtain ⟨φ', v', w', h1, h2, h3, h4⟩ := box_run (P := P) hty (hev x (by simp [Op.operands])) hs (by simpa [St.size_push] using hf)
      exact ⟨φ', v', _, w', by simp [execOp, h1], .inl rfl, h2, h3, h4⟩
    · cases h
  | build t ps =>
    simp only [aop, Option.map_eq_some_iff, Prod.mk.injEq] at h
    obtain ⟨u, hu, rfl, rfl⟩ := h
    obtain ⟨p1, p2⟩ := partsRel ps (by simpa [Op.operands] using hev)
    obtain ⟨v', h1, h2⟩ := build_run H w hu p1 p2
    exact Done.quiet hs (by simp [execOp, h1]) h2
  | buildSlice t n ps =>
    simp only [aop] at h
    split at h
    · rename_i e hu
      split at h
      · rename_i te hte
        split at h
        · rename_i hsm
          split at h
          · rename_i cs hcs
            simp only [Option.some.injEq, Prod.mk.injEq] at h
            obtain ⟨rfl, rfl⟩ := h
            obtain ⟨p1, p2⟩ := partsRel ps (by simpa [Op.operands] using hev)
            obtain ⟨φ', v', w', h1, h2, h3, h4⟩ := buildSlice_run H hu hte hsm hcs p1 p2 hs (by simpa [St.size_push] using hf)
            exact ⟨φ', v', _, w', by simp [execOp, h1], .inl rfl, h2, h3, h4⟩
          · cases h
        · cases h
      · cases h
    · cases h
  | load t a =>
    simp only [aop, Option.map_eq_some_iff, Prod.mk.injEq] at h
    obtain ⟨u, hu, rfl, rfl⟩ := h
    obtain ⟨v', h1, h2⟩ := loadv_run H hu (hev a (by simp [Op.operands])) hs
    exact Done.quiet hs (by simp [execOp, h1]) h2
  | store t a x =>
    simp only [aop, Option.map_eq_some_iff, Prod.mk.injEq] at h
    obtain ⟨s2, hu, rfl, rfl⟩ := h
    obtain ⟨w', h1, h2, h3⟩ := storev_run H hu (hev a (by simp [Op.operands])) (hev x (by simp [Op.operands])) hs
    exact Done.unit (by simp [execOp, h1]) h2 h3
  | nilCheck x =>
    simp only [aop, Option.map_eq_some_iff, Prod.mk.injEq] at h
    obtain ⟨u, hu, rfl, rfl⟩ := h
    obtain ⟨n1, n2, n3, n4, h2⟩ := nilCheck_run hu (hev x (by simp [Op.operands]))
    refine Done.quiet hs (v' := ev' x) ?_ h2
    simp only [execOp]
    rfl
  | binOp op t x y yt =>
    simp only [aop, Option.map_eq_some_iff, Prod.mk.injEq] at h
    obtain ⟨u, hu, rfl, rfl⟩ := h
    obtain ⟨v', h1, h2⟩ := binOp_run H w (x := x) (y := y) hu (hev x (by simp [Op.operands])) (hev y (by simp [Op.operands]))
    refine Done.quiet hs ?_ h2
    simp only [execOp, Sem.run_bind] at h1 ⊢
    rw [h1]; rfl
  | unOp op t x =>
    simp only [aop, Option.map_eq_some_iff, Prod.mk.injEq] at h
    obtain ⟨u, hu, rfl, rfl⟩ := h
    obtain ⟨v', h1, h2⟩ := unOp_run (P := P) w hu (hev x (by simp [Op.operands]))
    exact Done.quiet hs (by simp [execOp, h1]) h2
  | convert a b x =>
    simp only [aop] at h
    obtain ⟨φ', v', w', h1, h2, h3, h4⟩ := convert_run H h (hev x (by simp [Op.operands])) hs hf
    exact ⟨φ', v', _, w', by simp [execOp, h1], .inl rfl, h2, h3, h4⟩
  | makeFunc fn first captured =>
    simp only [aop, Option.some.injEq, Prod.mk.injEq] at h
    obtain ⟨rfl, rfl⟩ := h
    refine Done.quiet hs (v' := .func fn (first.map ev') (captured.map ev')) (by simp [execOp, Instr.makeFunc]) (.func _ _ _ _ _ ?_ ?_)
    · simp only [Array.toList_map]
      exact VRels.map _ _ _ fun x hx => hev x (by simp [Op.operands]; exact .inl (by simpa using hx))
    · simp only [Array.toList_map]
      exact VRels.map _ _ _ fun x hx => hev x (by simp [Op.operands]; exact .inr (by simpa using hx))
  | makeMap t r =>
    cases r with
    | some r => simp [aop] at h
    | none =>
      simp only [aop] at h
      split at h
      · simp only [Option.some.injEq, Prod.mk.injEq] at h
        obtain ⟨rfl, rfl⟩ := h
        obtain ⟨k1, k2⟩ := new_run (X := X) (w' := w.alloc (.map #[] 0)) (o := .map [] 0) (o' := .map #[] 0) (l := ⟨w.heap.size, 0, 0, 0⟩) hs (by simpa [St.size_push] using hf) (by simp [World.alloc, -World.alloc_eq]) rfl rfl rfl rfl
          ⟨rfl, #[], by simp [World.alloc, -World.alloc_eq], .nil⟩
        exact ⟨_, .map (some w.heap.size), _, _, by simp [execOp, Instr.makeMap], .inl rfl, .map _ _ (Phi.ext_same _ _ _ _), k1, k2⟩
      · cases h
  | makeSlice t l c =>
    simp only [aop] at h
    split at h
    · rename_i e k n k' m hu hl hc
      split at h
      · rename_i te hte
        split at h
        · rename_i hcond
          simp only [Option.some.injEq, Prod.mk.injEq] at h
          obtain ⟨rfl, rfl⟩ := h
          have h1 := hev l (by simp [Op.operands])
          have h2 := hev c (by simp [Op.operands])
          rw [hl] at h1; rw [hc] at h2
          have e1 := h1.inv_int
          have e2 := h2.inv_int
          obtain ⟨φ', v', w', h1, h2, h3, h4⟩ := makeSlice_run H (k := k) (k' := k') hu hte hcond.1 hcond.2.1 hcond.2.2 hs (by simpa [St.size_push] using hf)
          exact ⟨φ', v', _, w', by simp [execOp, e1, e2, h1], .inl rfl, h2, h3, h4⟩
        · cases h
      · cases h
    · cases h
  | slice t x lo hi mx =>
    simp only [aop, Option.map_eq_some_iff, Prod.mk.injEq] at h
    obtain ⟨u, hu, rfl, rfl⟩ := h
    obtain ⟨v', h1, h2⟩ := slice_run H w hu (hev x (by simp [Op.operands])) (optRel lo fun y hy => hev y (by simp [Op.operands] at hy ⊢; simp [hy])) (optRel hi fun y hy => hev y (by simp [Op.operands] at hy ⊢; simp [hy])) (optRel mx fun y hy => hev y (by simp [Op.operands] at hy ⊢; simp [hy]))
    exact Done.quiet hs (by simp [execOp, h1]) h2
  | fieldAddr t x f =>
    simp only [aop, Option.map_eq_some_iff, Prod.mk.injEq] at h
    obtain ⟨u, hu, rfl, rfl⟩ := h
    obtain ⟨v', h1, h2⟩ := fieldAddr_run H w hu (hev x (by simp [Op.operands]))
    exact Done.quiet hs (by simp [execOp, h1]) h2
  | field t x f =>
    simp only [aop, Option.map_eq_some_iff, Prod.mk.injEq] at h
    obtain ⟨u, hu, rfl, rfl⟩ := h
    obtain ⟨v', h1, h2⟩ := field_run H w hu (hev x (by simp [Op.operands]))
    exact Done.quiet hs (by simp [execOp, h1]) h2
  | indexAddr t x i =>
    simp only [aop, Option.map_eq_some_iff, Prod.mk.injEq] at h
    obtain ⟨u, hu, rfl, rfl⟩ := h
    obtain ⟨v', h1, h2⟩ := indexAddr_run H w hu (hev x (by simp [Op.operands])) (hev i (by simp [Op.operands]))
    exact Done.quiet hs (by simp [execOp, h1]) h2
  | index t x i =>
    simp only [aop, Option.map_eq_some_iff, Prod.mk.injEq] at h
    obtain ⟨u, hu, rfl, rfl⟩ := h
    obtain ⟨v', h1, h2⟩ := index_run H w hu (hev x (by simp [Op.operands])) (hev i (by simp [Op.operands]))
    exact Done.quiet hs (by simp [execOp, h1]) h2
  | lookup t m k ok =>
    simp only [aop, Option.map_eq_some_iff, Prod.mk.injEq] at h
    obtain ⟨u, hu, rfl, rfl⟩ := h
    obtain ⟨v', h1, h2⟩ := lookup_run H hu (hev m (by simp [Op.operands])) (hev k (by simp [Op.operands])) hs
    exact Done.quiet hs (by simp [execOp, h1]) h2
  | mapUpdate t m k x =>
    simp only [aop, Option.map_eq_some_iff, Prod.mk.injEq] at h
    obtain ⟨s2, hu, rfl, rfl⟩ := h
    obtain ⟨w', h1, h2, h3⟩ := mapUpdate_run H hu (hev m (by simp [Op.operands])) (hev k (by simp [Op.operands])) (hev x (by simp [Op.operands])) hs
    exact Done.unit (by simp [execOp, h1]) h2 h3
  | range t x =>
    simp only [aop] at h
    split at h
    · rename_i b hu hx
      simp only [Option.some.injEq, Prod.mk.injEq] at h
      obtain ⟨rfl, rfl⟩ := h
      have h1 := hev x (by simp [Op.operands])
      rw [hx] at h1
      have e1 := h1.inv_string
      obtain ⟨k1, k2⟩ := new_run (X := X) (w' := w.alloc (.stringIter b 0)) (o := .iter b 0) (o' := .stringIter b 0) (l := ⟨w.heap.size, 0, 0, 0⟩) hs (by simpa [St.size_push] using hf) (by simp [World.alloc, -World.alloc_eq]) rfl rfl rfl rfl
        ⟨rfl, rfl, by simp [World.alloc, -World.alloc_eq]⟩
      have hu' := run_ud H w hu
      exact ⟨_, _, _, _, by simp [execOp, Instr.range, e1, hu'], .inl rfl, VRel.ptr ⟨s.size, 0, none⟩ _ (Phi.ext_same _ _ _ _), k1, k2⟩
    · cases h
  | next it isStr =>
    cases isStr with
    | false => simp [aop] at h
    | true =>
      simp only [aop] at h
      split at h
      · rename_i a ha
        split at h
        · rename_i hoff
          split at h
          · rename_i b pos hb
            have h1 := hev it (by simp [Op.operands])
            rw [ha] at h1
            generalize hw : ev' it = p at h1
            cases h1 with | ptr a l hl =>
            have hoo := hs.obj _ _ _ hl _ hb
            obtain ⟨he0, hlo, hg⟩ := hoo
            have hgo : (getObj l.c).run P w = .ok (.stringIter b pos) w := by simp [getObj, Sem.run, hg]
            have hso : ∀ o', (setObj l.c o').run P w = .ok () { w with heap := w.heap.setIfInBounds l.c o' } := fun o' => by simp [setObj, Sem.run, hg]
            have hz : l.off + a.off = 0 := by omega
            split at h
            · rename_i hpos
              simp only [Option.some.injEq, Prod.mk.injEq] at h
              obtain ⟨rfl, rfl⟩ := h
              rw [he0] at hl
              have hlt := hs.lt _ _ _ hl
              obtain ⟨q1, q2⟩ := upd_obj (X := X) hs (o' := .stringIter b (pos + (Utf8.decode b pos).2)) (o1 := .iter b (pos + (Utf8.decode b pos).2)) hb hl rfl rfl (fun e l' he => (hs.obj _ _ _ he _ hb).1) ⟨rfl, hlo, by simp [hlt]⟩
              exact ⟨φ, .tuple #[.bool true, .int .i64 pos, .int .i32 (Utf8.decode b pos).1], _, _, by simp [execOp, Instr.next, hw, hz, hgo, hso, hpos, goInt], .inl rfl, .tuple _ _ (.cons _ _ _ _ (.bool _) (.cons _ _ _ _ (.int _ _) (.cons _ _ _ _ (.int _ _) .nil))), q1, q2⟩
            · rename_i hpos
              simp only [Option.some.injEq, Prod.mk.injEq] at h
              obtain ⟨rfl, rfl⟩ := h
              exact Done.quiet hs (v' := .tuple #[.bool false]) (by simp [execOp, Instr.next, hw, hz, hgo, hpos]) (.tuple _ _ (.cons _ _ _ _ (.bool _) .nil))
          · cases h
        · cases h
      · cases h
  | extract t i =>
    simp only [aop] at h
    split at h
    · rename_i vs hvs
      simp only [Option.map_eq_some_iff, Prod.mk.injEq] at h
      obtain ⟨u, hu, rfl, rfl⟩ := h
      have h1 := hev t (by simp [Op.operands])
      rw [hvs] at h1
      generalize hw : ev' t = p at h1
      cases h1 with | tuple a a' ha =>
      obtain ⟨v', h2, h3⟩ := ha.get i _ (by simpa using hu)
      have h2' : a'[i]? = some v' := by simpa using h2
      exact Done.quiet hs (by simp [execOp, hw, Instr.extract, h2']) h3
    · cases h
  | call c =>
    obtain ⟨callee, args, argTypes⟩ := c
    cases callee with
    | value f => simp [aop] at h
    | invoke r m => simp [aop] at h
    | builtin b =>
      simp only [aop] at h
      obtain ⟨l⟩ := args
      have hl : ∀ x ∈ l, VRel φ (ev x) (ev' x) := fun x hx => hev x (by simp [Op.operands, Call.operands, hx])
      simp only [execOp, resolve, Sem.run_bind, Sem.run_pure, Result.andThen_ok, invoke]
      unfold builtinv at h
      split at h
      · rename_i x hx
        rcases l with _ | ⟨x0, _ | ⟨y0, l⟩⟩ <;> simp at hx
        subst hx
        split at h
        · rename_i t ht
          simp only [Option.map_eq_some_iff, Prod.mk.injEq] at h
          obtain ⟨n, hn, rfl, rfl⟩ := h
          have := len_run H (ty0 := type) ht hn (hl x0 (by simp)) hs
          exact Done.quiet hs (by simp [builtin, this]) (.int _ _)
        · cases h
      · rename_i hx
        rcases l with _ | ⟨x0, _ | ⟨y0, l⟩⟩ <;> simp at hx
        split at h
        · rename_i t ht
          split at h
          · rename_i e hu
            simp only [Option.some.injEq, Prod.mk.injEq] at h
            obtain ⟨rfl, rfl⟩ := h
            have h1 := hl x0 (by simp)
            rw [hx] at h1
            have e1 := h1.inv_nilSlice
            have hu' := run_ud H w hu
            exact Done.quiet hs (v' := .int .i64 0) (by simp [builtin, Builtin.cap_, ht, e1, hu', goInt]) (.int _ _)
          · cases h
        · cases h
      · rename_i a n c hx
        rcases l with _ | ⟨x0, _ | ⟨y0, l⟩⟩ <;> simp at hx
        split at h
        · rename_i t ht
          split at h
          · rename_i e hu
            split at h
            · rename_i hodd
              simp only [Option.some.injEq, Prod.mk.injEq] at h
              obtain ⟨rfl, rfl⟩ := h
              have h1 := hl x0 (by simp)
              rw [hx] at h1
              generalize hw : ev' x0 = p at h1
              cases h1 with | slice a l len cap aa cap' hl h1 h2 h3 h4 h5 =>
              have hu' := run_ud H w hu
              have := h3 hodd
              subst this
              exact Done.quiet hs (v' := .int .i64 ((c / 2 : Nat) : Int)) (by simp [builtin, Builtin.cap_, ht, hw, hu', goInt]) (.int _ _)
            · cases h
          · cases h
        · cases h
      · rename_i x y hx
        rcases l with _ | ⟨x0, _ | ⟨y0, _ | ⟨z0, l⟩⟩⟩ <;> simp at hx
        obtain ⟨rfl, rfl⟩ := hx
        obtain ⟨φ', v', w', h1, h2, h3, h4⟩ := append_run H (ty0 := type) h (hl x0 (by simp)) (hl y0 (by simp)) hs hf
        exact ⟨φ', v', _, w', by simp [builtin, h1], .inl rfl, h2, h3, h4⟩
      · rename_i x y hx
        rcases l with _ | ⟨x0, _ | ⟨y0, _ | ⟨z0, l⟩⟩⟩ <;> simp at hx
        obtain ⟨rfl, rfl⟩ := hx
        obtain ⟨v', w', h1, h2, h3, h4⟩ := copy_run H (ty0 := type) h (hl x0 (by simp)) (hl y0 (by simp)) hs
        exact ⟨φ, v', _, w', by simp [builtin, h1], .inl rfl, h2, h3, h4⟩
      · rename_i x hx
        rcases l with _ | ⟨x0, _ | ⟨y0, l⟩⟩ <;> simp at hx
        subst hx
        obtain ⟨v', w', h1, h2, h3, h4⟩ := clear_run H (ty0 := type) h (hl x0 (by simp)) hs
        exact ⟨φ, v', _, w', by simp [builtin, h1], .inl rfl, h2, h3, h4⟩
      · rename_i x y hx
        rcases l with _ | ⟨x0, _ | ⟨y0, _ | ⟨z0, l⟩⟩⟩ <;> simp at hx
        obtain ⟨rfl, rfl⟩ := hx
        split at h
        · rename_i t ht
          simp only [Option.map_eq_some_iff, Prod.mk.injEq] at h
          obtain ⟨s2, hs2, rfl, rfl⟩ := h
          obtain ⟨w', h1, h3, h4⟩ := delete_run H (ty0 := type) ht hs2 (hl x0 (by simp)) (hl y0 (by simp)) hs
          exact ⟨φ, .tuple #[], _, w', by simp [builtin, h1], .inl rfl, .tuple _ _ .nil, h3, h4⟩
        · cases h
      · rename_i x r hx
        rcases l with _ | ⟨x0, l⟩ <;> simp at hx
        obtain ⟨rfl, rfl⟩ := hx
        simp only [Option.map_eq_some_iff, Prod.mk.injEq] at h
        obtain ⟨u, hu, rfl, rfl⟩ := h
        obtain ⟨v', h1, h2⟩ := min_run (P := P) w _ _ _ _ _ hu (hl x0 (by simp)) (VRels.map ev ev' l fun y hy => hl y (by simp [hy]))
        exact Done.quiet hs (by simp [builtin, Builtin.min_, h1]) h2
      · rename_i x r hx
        rcases l with _ | ⟨x0, l⟩ <;> simp at hx
        obtain ⟨rfl, rfl⟩ := hx
        simp only [Option.map_eq_some_iff, Prod.mk.injEq] at h
        obtain ⟨u, hu, rfl, rfl⟩ := h
        obtain ⟨v', h1, h2⟩ := max_run (P := P) w _ _ _ _ _ hu (hl x0 (by simp)) (VRels.map ev ev' l fun y hy => hl y (by simp [hy]))
        exact Done.quiet hs (by simp [builtin, Builtin.max_, h1]) h2
      · cases h
  | _ => simp [aop] at h
end
end Go.Proofs.Ytndedkpcfjnecaa.Ab
