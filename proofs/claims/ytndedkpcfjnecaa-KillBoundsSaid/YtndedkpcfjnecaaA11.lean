/- Operations with calls; regions in the text's order. -/
import Derived.Test.YtndedkpcfjnecaaA10
import Derived.Orders
set_option linter.unusedSimpArgs false
set_option linter.unusedVariables false
namespace Go.Proofs.Ytndedkpcfjnecaa.Ab

def opdOk (X : Prg) : Operand → Bool
  | .const v => cstOk 4 v
  | .global g => X.glob g
  | _ => true
def operOk (X : Prg) (n : Nat) (o : Oper) : Bool :=
  o.op.operands.toList.all (opdOk X) && (match o.dst with | some d => decide (d < n) | none => true)
def codeOk (X : Prg) (n : Nat) : Code → Bool
  | .region _ ops draw => ops.toList.all (operOk X n) && (!draw || statOk X ops.toList)
  | .seq a b => codeOk X n a && codeOk X n b
  | .cond c a b => opdOk X c && codeOk X n a && codeOk X n b
  | .block _ c | .loop c | .scope c => codeOk X n c
  | .skip | .exit _ | .ret | .label _ | .goto _ => true
  | _ => true
/-- The world has grown, and is as it was below. -/
def Grow (w w' : World) : Prop := w'.os = w.os ∧ w'.tape = w.tape ∧ w'.output = w.output ∧ w.heap.size ≤ w'.heap.size ∧ ∀ c, c < w.heap.size → w'.heap[c]? = w.heap[c]?
/-- The package-level variables stand in the world as they were laid. -/
def LaidIn (laid : List (Nat × List Value)) (w : World) : Prop := ∀ p ∈ laid, p.1 < w.heap.size ∧ ∀ i v, p.2[i]? = some v → w.cell? ⟨p.1, i, none⟩ = some v
def Knows (P : Program) (laid : List (Nat × List Value)) (known : Nat → List Value → Option Value) : Prop :=
  ∀ f args v, known f args = some v → args.all plainV = true → (∃ fn, P.funcs[f]? = some fn ∧ fn.body.isSome = true ∧ (fn.name == "runtime.NumGoroutine") = false) ∧ ∀ w, LaidIn laid w → Calls P f args.toArray w fun e w' => e = .returned v ∧ Grow w w'
structure SoundF (X : Prg) (P : Program) : Prop extends Sound X P where
  fn : ∀ f fn, X.fn f = some fn → P.funcs[f]? = some fn
  name : ∀ f fn, X.fn f = some fn → (fn.name == "runtime.NumGoroutine") = false
  code : ∀ f fn c, X.fn f = some fn → fn.body = some c → codeOk X fn.ntmps c = true
  mixed : P.follows .mixedOrders = true
  knows : Knows P X.laid X.known

def GlobOk (X : Prg) (φ : Phi) : Prop := ∀ g, X.glob g = true → ∃ l, φ g 0 = some l ∧ l.c = g ∧ l.off = 0
theorem GlobOk.mono {X : Prg} {φ φ' : Phi} (h : GlobOk X φ) (hle : φ.le φ') : GlobOk X φ' := fun g hg =>
  let ⟨l, h1, h2⟩ := h g hg
  ⟨l, hle _ _ _ h1, h2⟩
def EnvRel (φ : Phi) (ρ : Env) (a : Act) : Prop := ∀ t, VRel φ (ρ.get t) (a.tmps.getD t undef)
theorem EnvRel.mono {φ φ' : Phi} {ρ : Env} {a : Act} (h : EnvRel φ ρ a) (hle : φ.le φ') : EnvRel φ' ρ a := fun t => (h t).mono hle
theorem evo_rel {X : Prg} {φ : Phi} {ρ : Env} {a : Act} (h : EnvRel φ ρ a) (hg : GlobOk X φ) {x : Operand} (hx : opdOk X x = true) : VRel φ (evo ρ x) (a.eval x) := by
  cases x with
  | tmp t => exact h t
  | const v => exact VRel.cst 4 v hx
  | global g =>
    obtain ⟨l, h1, h2, h3⟩ := hg g hx
    have := VRel.ptr (φ := φ) ⟨g, 0, none⟩ l h1
    rw [h2, h3] at this
    exact this
  | func f => exact .func _ _ _ _ _ .nil .nil
theorem opds_rel {X : Prg} {φ : Phi} {ρ : Env} {a : Act} {o : Oper} {n : Nat} (hr : EnvRel φ ρ a) (hg : GlobOk X φ) (ho : operOk X n o = true) : ∀ x ∈ o.op.operands, VRel φ (evo ρ x) (a.eval x) := fun x hx => by
  unfold operOk at ho
  rw [Bool.and_eq_true, List.all_eq_true] at ho
  exact evo_rel hr hg (ho.1 x (Array.mem_toList_iff.2 hx))
theorem put_rel {φ : Phi} {ρ : Env} {a : Act} {v v' : Value} {d : Option Nat} (h : EnvRel φ ρ a) (hv : VRel φ v v') (hd : ∀ i, d = some i → i < a.tmps.size) : EnvRel φ (ρ.put d v) (a.put d v') := by
  cases d with
  | none => exact h
  | some i =>
    intro t
    have hi := hd i rfl
    simp only [Env.put, Act.put, Env.get_set]
    split
    · rename_i he; subst he
      simpa [hi] using hv
    · rename_i he
      have := h t
      simpa [Array.getElem?_setIfInBounds, he] using this
theorem put_size (a : Act) (d : Option Nat) (v : Value) : (a.put d v).tmps.size = a.tmps.size := by cases d <;> simp [Act.put]
theorem put_defers (a : Act) (d : Option Nat) (v : Value) : (a.put d v).defers = a.defers := by cases d <;> rfl
theorem wanted_rel {φ : Phi} {ρ : Env} {a : Act} (all : Array Oper) (o : Oper) (h : ∀ j want d, o.guard = some (j, want) → (all[j]?).bind (·.dst) = some d → VRel φ (ρ.get d) (a.tmps.getD d undef)) : Region.wanted o (yielded all a.tmps) = wantedE all o ρ := by
  unfold Region.wanted wantedE yielded
  cases hg : o.guard with
  | none => rfl
  | some p =>
    obtain ⟨j, want⟩ := p
    simp only
    cases hd : (all[j]?).bind (·.dst) with
    | none => simp
    | some d =>
      simp only [Option.bind_some]
      have := h j want d hg hd
      cases ht : a.tmps[d]? with
      | none =>
        simp only [Array.getD_eq_getD_getElem?, ht, Option.getD_none] at this
        generalize ρ.get d = u at this
        cases this
        simp
      | some x =>
        simp only [Array.getD_eq_getD_getElem?, ht, Option.getD_some] at this
        generalize ρ.get d = u at this
        cases this <;> simp <;> (try (cases want <;> simp [beq_iff_eq] <;> rfl))

/-- What a run leaves of what was there: its kind. -/
def Keep (s s' : St) : Prop := s.size ≤ s'.size ∧ ∀ b, b < s.size → isMut (s'.get b) = isMut (s.get b)
theorem Keep.refl (s : St) : Keep s s := ⟨Nat.le_refl _, fun _ _ => rfl⟩
theorem Keep.trans {s s1 s2 : St} (h : Keep s s1) (k : Keep s1 s2) : Keep s s2 := ⟨Nat.le_trans h.1 k.1, fun b hb => by rw [k.2 b (Nat.lt_of_lt_of_le hb h.1), h.2 b hb]⟩
theorem Keep.push (s : St) (o : AObj) : Keep s (s.push o) := ⟨by simp [St.size_push], fun b hb => by rw [St.get_push, if_neg (by omega)]⟩
theorem Keep.set {s : St} {b : Nat} {o0 o : AObj} (h : s.get b = some o0) (h0 : isMut (some o0) = true) (h1 : isMut (some o) = true) : Keep s (s.set b o) :=
  ⟨Nat.le_refl _, fun c _ => by
    rw [St.get_set h]
    split
    · rename_i he; subst he; rw [h, h0, h1]
    · rfl⟩
theorem wr_keep {s s' : St} {a : Addr} {vs : List Value} (h : s.wr a vs = some s') : Keep s s' := by
  unfold St.wr at h
  split at h
  · rename_i hb
    split at h
    · cases h; exact Keep.set hb rfl rfl
    · cases h
  · cases h
theorem storev_keep {X : Prg} {s s' : St} {t : TypeId} {p v : Value} (h : storev X t p v s = some s') : Keep s s' := by
  unfold storev at h
  split at h
  · split at h
    · exact wr_keep h
    · cases h
  · cases h
theorem mapUpdate_keep {X : Prg} {s s' : St} {t : TypeId} {m k v : Value} (h : mapUpdatev X t m k v s = some s') : Keep s s' := by
  unfold mapUpdatev at h
  repeat' split at h
  all_goals first | (cases h; done) | (cases h; exact Keep.set (by assumption) rfl rfl)
theorem delete_keep {X : Prg} {s s' : St} {t : TypeId} {m k : Value} (h : deletev X t m k s = some s') : Keep s s' := by
  unfold deletev at h
  repeat' split at h
  all_goals first | (cases h; done) | (cases h; exact Keep.set (by assumption) rfl rfl)
theorem append_keep {te : Ty} {e n : Nat} {vs : List Value} {x v : Value} {s s' : St} (h : appendTo te e n vs x s = some (v, s')) : Keep s s' := by
  unfold appendTo at h
  repeat' split at h
  all_goals first
    | (cases h; done)
    | (cases h; exact Keep.refl _)
    | (cases h; exact Keep.push _ _)
    | (cases h; rename_i hw; exact wr_keep hw)
    | (cases h; exact Keep.set (by assumption) rfl rfl)
theorem aop_keep {X : Prg} {ev : Operand → Value} {op : Op} {s s' : St} {v : Value} (h : aop X ev op s = some (v, s')) : Keep s s' := by
  unfold aop at h
  split at h
  all_goals first
    | (cases h; exact Keep.refl _)
    | (simp only [Option.map_eq_some_iff, Prod.mk.injEq] at h; obtain ⟨_, _, _, rfl⟩ := h; exact Keep.refl _)
    | (simp only [Option.map_eq_some_iff, Prod.mk.injEq] at h; obtain ⟨_, h1, _, rfl⟩ := h; first | exact storev_keep h1 | exact mapUpdate_keep h1)
    | (repeat' split at h
       all_goals first | (cases h; done) | (cases h; exact Keep.refl _) | (cases h; exact Keep.push _ _) | (cases h; exact Keep.set (by assumption) rfl rfl))
    | skip
  · unfold convertv at h
    repeat' split at h
    all_goals first
      | (cases h; done)
      | (cases h; exact Keep.refl _)
      | (cases h; exact Keep.push _ _)
      | (simp only [Option.map_eq_some_iff, Prod.mk.injEq] at h; obtain ⟨_, _, _, rfl⟩ := h; exact Keep.refl _)
  · split at h
    · simp only [Option.map_eq_some_iff, Prod.mk.injEq] at h; obtain ⟨_, _, _, rfl⟩ := h; exact Keep.refl _
    · cases h
  · unfold builtinv at h
    repeat' split at h
    all_goals first
      | (cases h; done)
      | (cases h; exact Keep.refl _)
      | (simp only [Option.map_eq_some_iff, Prod.mk.injEq] at h; obtain ⟨_, _, _, rfl⟩ := h; exact Keep.refl _)
      | (simp only [Option.map_eq_some_iff, Prod.mk.injEq] at h; obtain ⟨_, h1, _, rfl⟩ := h; exact delete_keep h1)
      | skip
    · unfold appendv at h
      repeat' split at h
      all_goals first | (cases h; done) | exact append_keep h
    · unfold copyv copyTo at h
      repeat' split at h
      all_goals first
        | (cases h; done)
        | (cases h; exact Keep.refl _)
        | (simp only [Option.map_eq_some_iff, Prod.mk.injEq] at h; obtain ⟨_, h1, _, rfl⟩ := h; exact wr_keep h1)
    · unfold clearv at h
      repeat' split at h
      all_goals first
        | (cases h; done)
        | (cases h; exact Keep.refl _)
        | (simp only [Option.map_eq_some_iff, Prod.mk.injEq] at h; obtain ⟨_, h1, _, rfl⟩ := h; exact wr_keep h1)

/-- What neither writes nor calls: nothing, or something new; and that hangs on the store's size alone. -/
theorem aop_quiet {X : Prg} {ev : Operand → Value} {op : Op} {s s' : St} {v : Value} (h : aop X ev op s = some (v, s')) (he : isEff op = false) :
    (isNew X op = false ∧ s' = s) ∨ (isNew X op = true ∧ ∃ o, s' = s.push o ∧ ∀ s2 : St, s2.size = s.size → aop X ev op s2 = some (v, s2.push o)) := by
  unfold aop at h
  split at h
  all_goals first
    | (cases he; done)
    | (simp only [Option.map_eq_some_iff, Prod.mk.injEq] at h; obtain ⟨_, _, _, rfl⟩ := h; exact .inl ⟨rfl, rfl⟩)
    | (cases h; exact .inl ⟨rfl, rfl⟩)
    | (split at h
       · cases h; exact .inl ⟨rfl, rfl⟩
       · cases h)
    | skip
  · split at h
    · rename_i hty; cases h; exact .inr ⟨rfl, _, rfl, fun s2 h2 => by simp [aop, hty, h2]⟩
    · cases h
  · split at h
    · rename_i hty; cases h; exact .inr ⟨rfl, _, rfl, fun s2 h2 => by simp [aop, hty, h2]⟩
    · cases h
  · split at h
    · rename_i e hu
      split at h
      · rename_i te hte
        split at h
        · rename_i hsm
          split at h
          · rename_i cs hcs; cases h; exact .inr ⟨rfl, _, rfl, fun s2 h2 => by simp [aop, hu, hte, hsm, hcs, h2]⟩
          · cases h
        · cases h
      · cases h
    · cases h
  · -- convert
    rename_i a b x
    unfold convertv at h
    split at h
    · rename_i ts td hta htb
      split at h
      all_goals first
        | (rename_i e1 e2; cases h; exact .inl ⟨by simp [isNew, Prg.und, hta, htb, e1, e2], rfl⟩)
        | (rename_i e1 e2 _; cases h; exact .inl ⟨by simp [isNew, Prg.und, hta, htb, e1, e2], rfl⟩)
        | skip
      · rename_i e c e1 e2 hx
        split at h
        · rename_i hu; cases h
          exact .inr ⟨by simp [isNew, Prg.und, hta, htb, e1, e2], _, rfl, fun s2 h2 => by simp [aop, convertv, hta, htb, e1, e2, hx, hu, h2]⟩
        · cases h
      · rename_i e l c e1 e2 hx
        split at h
        · cases h; exact .inl ⟨by simp [isNew, Prg.und, hta, htb, e1, e2], rfl⟩
        · cases h
      · rename_i e a len cap e1 e2 hx
        split at h
        · split at h
          · simp only [Option.map_eq_some_iff, Prod.mk.injEq] at h
            obtain ⟨_, _, _, rfl⟩ := h
            exact .inl ⟨by simp [isNew, Prg.und, hta, htb, e1, e2], rfl⟩
          · cases h
        · cases h
      · cases h
    · cases h
  · split at h
    · rename_i hu; cases h; exact .inr ⟨rfl, _, rfl, fun s2 h2 => by simp [aop, hu, h2]⟩
    · cases h
  · split at h
    · rename_i e k n k' m hu hl hc
      split at h
      · rename_i te hte
        split at h
        · rename_i hcond; cases h
          exact .inr ⟨rfl, _, rfl, fun s2 h2 => by simp only [aop, hu, hl, hc, hte, if_pos hcond, h2]⟩
        · cases h
      · cases h
    · cases h
  · split at h
    · rename_i b hu hx; cases h
      exact .inr ⟨rfl, _, rfl, fun s2 h2 => by simp [aop, hu, hx, h2]⟩
    · cases h
  · split at h
    · simp only [Option.map_eq_some_iff, Prod.mk.injEq] at h
      obtain ⟨_, _, _, rfl⟩ := h
      exact .inl ⟨rfl, rfl⟩
    · cases h
  · -- builtins
    rename_i bb args argTypes
    unfold builtinv at h
    split at h
    all_goals first
      | (cases he; done)
      | (simp only [Option.map_eq_some_iff, Prod.mk.injEq] at h; obtain ⟨_, _, _, rfl⟩ := h; exact .inl ⟨rfl, rfl⟩)
      | (cases h; done)
      | skip
    all_goals (repeat' split at h)
    all_goals first
      | (cases h; done)
      | (cases h; exact .inl ⟨rfl, rfl⟩)
      | (simp only [Option.map_eq_some_iff, Prod.mk.injEq] at h; obtain ⟨_, _, _, rfl⟩ := h; exact .inl ⟨rfl, rfl⟩)
  · cases h

def CallOk (X : Prg) (P : Program) (call : Caller) : Prop :=
  ∀ f args s v s', call f args s = some (v, s') → Keep s s' ∧ (∃ fn, P.funcs[f]? = some fn ∧ fn.body.isSome = true ∧ (fn.name == "runtime.NumGoroutine") = false) ∧
    ∀ φ (args' : Array Value) w, VRels φ args args'.toList → GlobOk X φ → SRel X φ s.get w → Fresh φ s.size s'.size →
      Calls P f args' w fun e w' => ∃ φ' v', e = .returned v' ∧ VRel φ' v v' ∧ SRel X φ' s'.get w' ∧ Step φ φ' s s' w w'

section
variable {X : Prg} {P : Program} (H : Sound X P) {call : Caller} (HC : CallOk X P call) {φ : Phi} {s : St} {w : World}
include H HC
theorem stepOp_sound {o : Oper} {ρ : Env} {a : Act} {v : Value} {s' : St} {Q : Exit → Act → World → Prop} (h : stepOp call X o ρ s = some (v, s')) (hopd : ∀ x ∈ o.op.operands, VRel φ (evo ρ x) (a.eval x)) (hg : GlobOk X φ) (hs : SRel X φ s.get w) (hf : Fresh φ s.size s'.size) (K : Act → World → Prop)
    (hK : ∀ φ' v' w', VRel φ' v v' → SRel X φ' s'.get w' → Step φ φ' s s' w w' → K (a.put o.dst v') w') : o.wp P a w K Q := by
  have quiet : aop X (evo ρ) o.op s = some (v, s') → o.wp P a w K Q := by
    intro h
    obtain ⟨φ', v', n, w', h1, h2, h3, h4, h5⟩ := aop_sound H o h hopd hs hf
    unfold Oper.wp
    rw [h1]
    rcases h2 with rfl | ⟨rfl, rfl⟩
    · exact hK φ' v' w' h3 h4 h5
    · exact hK φ' undef w' h3 h4 h5
  unfold stepOp at h
  split at h
  · rename_i f args argTypes hop
    split at h
    · rename_i k first captured hk
      obtain ⟨_, ⟨fn, hfn, hbody, hname⟩, hcall⟩ := HC _ _ _ _ _ h
      have hf1 := hopd f (by rw [hop]; simp [Op.operands, Call.operands])
      rw [hk] at hf1
      generalize hw : a.eval f = fv at hf1
      cases hf1 with | func fn0 f1 c1 f1' c1' hfirst hcap =>
      have hargs : VRels φ (first.toList ++ args.toList.map (evo ρ) ++ captured.toList) (f1' ++ args.map a.eval ++ c1').toList := by
        simp only [Array.toList_append, Array.toList_map]
        exact (hfirst.append (VRels.map _ _ _ fun x hx => hopd x (by rw [hop]; simp [Op.operands, Call.operands]; exact .inr (by simpa using hx)))).append hcap
      have hc := hcall φ _ w hargs hg hs hf
      have hb : fn.body.isNone = false := by cases hx : fn.body <;> simp_all
      have hrun : (execOp a.eval o).run P w = .ok (.enter k (f1' ++ args.map a.eval ++ c1')) w := by
        simp only [execOp, hop, resolve, Deferred.ofValue, hw, Sem.run_bind, Sem.run_pure, Result.andThen_ok, invoke]
        have q1 : fn.name ≠ "runtime.NumGoroutine" := by simpa using hname
        have q2 : fn.body ≠ none := by intro q; rw [q] at hb; cases hb
        simp [callFunc, hfn, q1, q2]
      unfold Oper.wp
      rw [hrun]
      refine hc.mono ?_
      rintro e w' ⟨φ', v', rfl, h3, h4, h5⟩
      exact hK φ' v' w' h3 h4 h5
    · cases h
  · rename_i hop
    exact quiet h

omit H in
theorem stepOp_keep {o : Oper} {ρ : Env} {v : Value} {s s' : St} (h : stepOp call X o ρ s = some (v, s')) : Keep s s' := by
  unfold stepOp at h
  split at h
  · split at h
    · exact (HC _ _ _ _ _ h).1
    · cases h
  · exact aop_keep h
omit H in
theorem runOps_keep {all : Array Oper} : ∀ (ops : List Oper) (ρ : Env) (s : St) (ρ' : Env) (s' : St), runOps call X all ops ρ s = some (ρ', s') → Keep s s'
  | [], ρ, s, ρ', s', h => by cases h; exact Keep.refl _
  | o :: ops, ρ, s, ρ', s', h => by
    simp only [runOps] at h
    split at h
    · split at h
      · rename_i v s1 h1
        exact (stepOp_keep HC h1).trans (runOps_keep ops _ _ _ _ h)
      · cases h
    · exact runOps_keep ops _ _ _ _ h
omit H HC in
theorem Fresh.sub {φ : Phi} {lo hi lo' hi' : Nat} (h : Fresh φ lo hi) (h1 : lo ≤ lo') (h2 : hi' ≤ hi) : Fresh φ lo' hi' := fun b e hb hb' => h b e (by omega) (by omega)

theorem runOps_sound {n : Nat} {all : Array Oper} {Q : Exit → Act → World → Prop} : ∀ (ops : List Oper) (ρ : Env) (s : St) (φ : Phi) (a : Act) (w : World) (ρ' : Env) (s' : St), runOps call X all ops ρ s = some (ρ', s') → (∀ o ∈ ops, operOk X n o = true) → n ≤ a.tmps.size →
    EnvRel φ ρ a → GlobOk X φ → SRel X φ s.get w → Fresh φ s.size s'.size →
    (∀ φ' a' w', EnvRel φ' ρ' a' → a'.tmps.size = a.tmps.size → a'.defers = a.defers → SRel X φ' s'.get w' → Step φ φ' s s' w w' → Q .normal a' w') → wpList P all Q ops a w
  | [], ρ, s, φ, a, w, ρ', s', h, ho, hn, hr, hg, hs, hf, hQ => by
    cases h
    exact hQ φ a w hr rfl rfl hs (Step.refl _ _ _)
  | o :: ops, ρ, s, φ, a, w, ρ', s', h, ho, hn, hr, hg, hs, hf, hQ => by
    simp only [runOps] at h
    have hoo := ho o (by simp)
    have hd : ∀ i, o.dst = some i → i < a.tmps.size := fun i hi => by
      unfold operOk at hoo
      rw [Bool.and_eq_true] at hoo
      have := hoo.2
      rw [hi] at this
      exact Nat.lt_of_lt_of_le (of_decide_eq_true this) hn
    unfold wpList
    rw [wanted_rel all o (fun _ _ d _ _ => hr d)]
    split at h
    · rename_i hw
      rw [if_pos hw]
      split at h
      · rename_i v s1 h1
        have hsz := (runOps_keep HC _ _ _ _ _ h).1
        refine .inl (stepOp_sound H HC h1 (opds_rel hr hg hoo) hg hs (hf.sub (Nat.le_refl _) hsz) _ fun φ' v' w' hv hs' hst => ?_)
        refine runOps_sound ops _ _ φ' _ w' ρ' s' h (fun o' ho' => ho o' (by simp [ho'])) (by rw [put_size]; exact hn) (put_rel (hr.mono hst.le) hv hd) (hg.mono hst.le) hs' (hst.fresh hf) fun φ2 a2 w2 q1 q2 q3 q4 q5 => ?_
        exact hQ φ2 a2 w2 q1 (by rw [q2, put_size]) (by rw [q3, put_defers]) q4 (hst.trans q5 hf)
      · cases h
    · rename_i hw
      rw [if_neg hw]
      refine runOps_sound ops _ _ φ _ w ρ' s' h (fun o' ho' => ho o' (by simp [ho'])) (by rw [put_size]; exact hn) (put_rel hr (.tuple _ _ .nil) hd) hg hs hf fun φ2 a2 w2 q1 q2 q3 q4 q5 => ?_
      exact hQ φ2 a2 w2 q1 (by rw [q2, put_size]) (by rw [q3, put_defers]) q4 q5
end
end Go.Proofs.Ytndedkpcfjnecaa.Ab
