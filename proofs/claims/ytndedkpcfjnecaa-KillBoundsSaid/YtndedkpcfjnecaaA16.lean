/- Code and calls: what the evaluator answers is what the machine's calls answer. -/
import Derived.Test.YtndedkpcfjnecaaA15
set_option linter.unusedSimpArgs false
set_option linter.unusedVariables false
namespace Go.Proofs.Ytndedkpcfjnecaa.Ab

def toExit : Xit → Exit
  | .normal => .normal
  | .exit id => .exit id
  | .goto l => .goto l
  | .ret => .ret
def ExOk (X : Prg) (P : Program) (ex : Code → Env → St → Option (Xit × Env × St)) : Prop :=
  ∀ c ρ s e ρ' s', ex c ρ s = some (e, ρ', s') → Keep s s' ∧ ∀ (φ : Phi) (a : Act) (w : World) (Q : Exit → Act → World → Prop), codeOk X a.tmps.size c = true → EnvRel φ ρ a → GlobOk X φ → SRel X φ s.get w → Fresh φ s.size s'.size →
    (∀ φ' a' w', EnvRel φ' ρ' a' → a'.tmps.size = a.tmps.size → a'.defers = a.defers → SRel X φ' s'.get w' → Step φ φ' s s' w w' → Q (toExit e) a' w') → c.wp P Q a w

theorem fill_get : ∀ (l : List Value) (i : Nat) (ρ : Env) (t : Nat), (Env.fill i l ρ).get t = if i ≤ t ∧ t < i + l.length then l.getD (t - i) undef else ρ.get t
  | [], i, ρ, t => by simp only [Env.fill, List.length_nil]; rw [if_neg (by omega)]
  | v :: l, i, ρ, t => by
    simp only [Env.fill, List.length_cons]
    rw [fill_get l (i + 1) (ρ.set i v) t, Env.get_set]
    by_cases h : i = t
    · subst h
      rw [if_neg (by omega), if_pos rfl, if_pos (by omega)]
      simp
    · by_cases h1 : i + 1 ≤ t ∧ t < i + 1 + l.length
      · rw [if_pos h1, if_pos (by omega)]
        have : t - i = (t - (i + 1)) + 1 := by omega
        rw [this]; simp
      · rw [if_neg h1, if_neg h, if_neg (by omega)]
theorem of_get (l : List Value) (t : Nat) : (Env.of l).get t = l.getD t undef := by
  unfold Env.of
  rw [fill_get]
  split
  · simp
  · rename_i h
    rw [List.getD_eq_getElem?_getD, List.getElem?_eq_none (by omega)]
    rfl

section
variable {X : Prg} {P : Program} (H : SoundF X P)

include H in
theorem results_run {φ : Phi} {ρ : Env} {a : Act} {s : St} {w : World} {fn : Func} {vs : List Value} (h : resvs X ρ s fn.results.toList = some vs) (hr : EnvRel φ ρ a) (hs : SRel X φ s.get w) : ∃ v', (results fn a.tmps).run P w = .ok v' w ∧ VRel φ (tupv vs) v' := by
  have key : ∀ (g : ResultVar → Sem Value), (∀ t, g (.tmp t) = pure (a.tmps.getD t undef)) → (∀ q t, g (.cell q t) = (do loadVar t (← asAddr (a.tmps.getD q undef)) : Sem Value)) →
      ∀ (rs : List ResultVar) (vs : List Value), resvs X ρ s rs = some vs → ∃ vs', (rs.mapM g).run P w = .ok vs' w ∧ VRels φ vs vs' := by
    intro g hg1 hg2 rs
    induction rs with
    | nil => intro vs h; simp only [resvs, Option.some.injEq] at h; subst h; exact ⟨[], rfl, .nil⟩
    | cons r rs ih =>
      intro vs h
      simp only [resvs] at h
      split at h
      · rename_i v vs2 hv hvs
        cases h
        obtain ⟨vs', h1, h2⟩ := ih _ hvs
        cases r with
        | tmp t =>
          simp only [resv, Option.some.injEq] at hv
          subst hv
          refine ⟨a.tmps.getD t undef :: vs', ?_, .cons _ _ _ _ (hr t) h2⟩
          simp only [List.mapM_cons, hg1, Sem.run_bind, Sem.run_pure, Result.andThen_ok, h1]
        | cell q t =>
          simp only [resv] at hv
          obtain ⟨u', h3, h4⟩ := loadv_run H.toSound hv (hr q) hs
          refine ⟨u' :: vs', ?_, .cons _ _ _ _ h4 h2⟩
          have h5 : (do loadVar t (← asAddr (a.tmps.getD q undef)) : Sem Value).run P w = .ok u' w := by
            have := hr q
            generalize a.tmps.getD q undef = p at this h3
            unfold loadv at hv
            split at hv
            · rename_i ty ad _ hty hp
              rw [hp] at this
              cases this with | ptr a l hl =>
              simpa [Instr.loadAt, Instr.sureAddr, asAddr] using h3
            · cases hv
          simp only [Sem.run_bind] at h5
          simp only [List.mapM_cons, hg2, Sem.run_bind, h5, Sem.run_pure, Result.andThen_ok, h1]
      · cases h
  unfold results
  simp only [Sem.run_bind]
  rw [Array.mapM_eq_mapM_toList]
  simp only [Sem.run_map]
  obtain ⟨vs', h1, h2⟩ := key (fun x => match x with
      | ResultVar.tmp t => pure (a.tmps.getD t undef)
      | ResultVar.cell q t => do
        let p ← asAddr (a.tmps.getD q undef)
        loadVar t p) (fun _ => rfl) (fun _ _ => rfl) _ _ h
  have h1' : ∀ g : ResultVar → Sem Value, (∀ t, g (.tmp t) = pure (a.tmps.getD t undef)) → (∀ q t, g (.cell q t) = (do loadVar t (← asAddr (a.tmps.getD q undef)) : Sem Value)) → (fn.results.toList.mapM g).run P w = .ok vs' w := by
    intro g hg1 hg2
    rw [← h1]
    congr 2
    funext x
    cases x with
    | tmp t => exact hg1 t
    | cell q t => exact hg2 q t
  rw [h1' _ (fun _ => rfl) (fun _ _ => rfl)]
  simp only [Result.andThen_ok, Sem.run_pure]
  have hlen := h2.length
  cases h2 with
  | nil => exact ⟨_, rfl, .tuple _ _ .nil⟩
  | cons v v' l l' hv hl =>
    cases hl with
    | nil => exact ⟨v', rfl, hv⟩
    | cons u u' m m' hu hm => exact ⟨_, rfl, .tuple _ _ (.cons _ _ _ _ hv (.cons _ _ _ _ hu hm))⟩

theorem plainEq_eq {a b : Value} (h : plainEq a b = true) : a = b ∧ plainV b = true := by
  cases a <;> cases b <;> simp [plainEq] at h
  · subst h; exact ⟨rfl, rfl⟩
  · obtain ⟨rfl, rfl⟩ := h; exact ⟨rfl, rfl⟩
  · rename_i x y
    refine ⟨?_, rfl⟩
    cases x; cases y
    simp at h
    rw [h]
theorem plainEqs_eq : ∀ {a b : List Value}, plainEqs a b = true → a = b ∧ ∀ v ∈ b, plainV v = true
  | [], [], _ => ⟨rfl, fun v hv => by cases hv⟩
  | x :: xs, y :: ys, h => by
    simp only [plainEqs, Bool.and_eq_true] at h
    obtain ⟨e1, h1⟩ := plainEq_eq h.1
    obtain ⟨e2, h2⟩ := plainEqs_eq h.2
    refine ⟨by rw [e1, e2], fun v hv => ?_⟩
    rcases List.mem_cons.1 hv with rfl | hv
    · exact h1
    · exact h2 v hv
  | [], _ :: _, h => by simp [plainEqs] at h
  | _ :: _, [], h => by simp [plainEqs] at h
theorem laidIn_of {X : Prg} {φ : Phi} {s : St} {w : World} (h : laidOk X s = true) (hg : GlobOk X φ) (hs : SRel X φ s.get w) : LaidIn X.laid w := by
  intro p hp
  have h1 := List.all_eq_true.1 h p hp
  obtain ⟨l, h2, h3, h4⟩ := hg p.1 (List.any_eq_true.2 ⟨p, hp, by simp⟩)
  refine ⟨h3 ▸ hs.lt _ _ _ h2, fun i v hv => ?_⟩
  split at h1
  · rename_i c hc
    obtain ⟨rfl, h5⟩ := plainEqs_eq h1
    obtain ⟨v', h6, h7⟩ := hs.obj _ _ _ h2 _ hc rfl i v hv
    rw [h3, h4, Nat.zero_add] at h6
    have h8 := h5 v (List.mem_of_getElem? hv)
    rw [h6]
    cases h7 <;> first | rfl | (simp [plainV] at h8; done)
  · cases h1
theorem plain_same {φ : Phi} : ∀ {l l' : List Value}, VRels φ l l' → l.all plainV = true → l' = l
  | _, _, .nil, _ => rfl
  | _, _, .cons v v' l l' h1 h2, h => by
    simp only [List.all_cons, Bool.and_eq_true] at h
    rw [plain_same h2 h.2]
    cases h1 <;> first | rfl | (simp [plainV] at h; done)
theorem SRel.grow {φ : Phi} {g : Nat → Option AObj} {w w' : World} (h : SRel X φ g w) (k : Grow w w') : SRel X φ g w' :=
  ⟨fun b e l hb o ho => (h.obj b e l hb o ho).world (fun _ _ _ h => h) (k.2.2.2.2 _ (h.lt _ _ _ hb)), fun b e l hb => Nat.lt_of_lt_of_le (h.lt b e l hb) k.2.2.2.1, h.sep⟩
theorem Step.grow {φ : Phi} {s : St} {w w' : World} (k : Grow w w') : Step φ φ s s w w' :=
  ⟨Nat.le_refl _, fun _ _ _ h => h, fun _ _ _ h => .inl h, fun _ _ => rfl, k.1, k.2.1, k.2.2.1, k.2.2.2.1, fun c hc _ => k.2.2.2.2 c hc⟩
include H in
theorem enter_ok {ex : Code → Env → St → Option (Xit × Env × St)} (hex : ExOk X P ex) : CallOk X P (enter ex X) := by
  intro f args s v s' h
  unfold enter at h
  split at h
  · rename_i u hkn
    split at h
    · rename_i hcond; cases h
      rw [Bool.and_eq_true, Bool.and_eq_true] at hcond
      obtain ⟨hfn, hcall⟩ := H.knows f args _ hkn hcond.1
      refine ⟨Keep.refl _, hfn, fun φ args' w hargs hg hs hf => ?_⟩
      have he : args' = args.toArray := by
        have := plain_same hargs hcond.1
        rw [← this]
      subst he
      refine (hcall w (laidIn_of hcond.2.2 hg hs)).mono ?_
      rintro e w' ⟨rfl, g⟩
      exact ⟨φ, _, rfl, VRel.cst 4 _ hcond.2.1, hs.grow g, Step.grow g⟩
    · cases h
  split at h
  · cases h
  · rename_i fn hfn
    split at h
    · cases h
    · rename_i c hc
      split at h
      · rename_i hlen
        have fin : ∀ e ρ2 s2, ex c (Env.of args) s = some (e, ρ2, s2) → (e = .normal ∨ e = .ret) → (resvs X ρ2 s2 fn.results.toList).map (fun vs => (tupv vs, s2)) = some (v, s') → Keep s s' ∧ (∃ fn, P.funcs[f]? = some fn ∧ fn.body.isSome = true ∧ (fn.name == "runtime.NumGoroutine") = false) ∧
            ∀ φ (args' : Array Value) w, VRels φ args args'.toList → GlobOk X φ → SRel X φ s.get w → Fresh φ s.size s'.size →
              Calls P f args' w fun e w' => ∃ φ' v', e = .returned v' ∧ VRel φ' v v' ∧ SRel X φ' s'.get w' ∧ Step φ φ' s s' w w' := by
          intro e ρ2 s2 h1 he h2
          simp only [Option.map_eq_some_iff, Prod.mk.injEq] at h2
          obtain ⟨vs, hvs, rfl, rfl⟩ := h2
          obtain ⟨hk, hrun⟩ := hex _ _ _ _ _ _ h1
          refine ⟨hk, ⟨fn, H.fn f fn hfn, by rw [hc]; rfl, H.name f fn hfn⟩, fun φ args' w hargs hg hs hf => ?_⟩
          have hl2 := hargs.length
          simp only [Array.length_toList] at hl2
          refine calls_of_wp (H.fn f fn hfn) hc (hrun φ _ w _ ?_ (fun t => ?_) hg hs hf fun φ' a' w' q1 q2 q3 q4 q5 => ?_)
          · have : (args' ++ Array.replicate (fn.ntmps - args'.size) undef).size = fn.ntmps := by simp; omega
            rw [this]
            exact H.code f fn c hfn hc
          · rw [of_get]
            by_cases ht : t < args.length
            · obtain ⟨v', g1, g2⟩ := hargs.get t args[t] (List.getElem?_eq_getElem ht)
              have g3 : args'[t]? = some v' := by simpa using g1
              have e1 : args.getD t undef = args[t] := by simp [ht]
              have e2 : (args' ++ Array.replicate (fn.ntmps - args'.size) undef).getD t undef = v' := by
                rw [Array.getD_eq_getD_getElem?, Array.getElem?_append_left (by omega), g3]; rfl
              rw [e1, e2]; exact g2
            · have e1 : args.getD t undef = undef := by rw [List.getD_eq_getElem?_getD, List.getElem?_eq_none (by omega)]; rfl
              have e2 : (args' ++ Array.replicate (fn.ntmps - args'.size) undef).getD t undef = undef := by
                rw [Array.getD_eq_getD_getElem?, Array.getElem?_append_right (by omega)]
                rw [Array.getElem?_replicate]
                split <;> rfl
              rw [e1]
              simp only [e2]
              exact .tuple _ _ .nil
          · obtain ⟨v', g1, g2⟩ := results_run H (fn := fn) hvs q1 q4
            have : bodyPost P fn (fun e w' => ∃ φ' v', e = .returned v' ∧ VRel φ' (tupv vs) v' ∧ SRel X φ' s2.get w' ∧ Step φ φ' s s2 w w') (toExit e) a' w' := by
              rcases he with rfl | rfl
              · exact ⟨q3, v', g1, φ', v', rfl, g2, q4, q5⟩
              · exact ⟨q3, v', g1, φ', v', rfl, g2, q4, q5⟩
            exact this
        split at h
        · rename_i ρ2 s2 h1; exact fin _ _ _ h1 (.inl rfl) h
        · rename_i ρ2 s2 h1; exact fin _ _ _ h1 (.inr rfl) h
        · cases h
      · cases h

/-- Code inside a scope: jumps to its labels stay in it. -/
def InScope (P : Program) (body c : Code) (Q : Exit → Act → World → Prop) (a : Act) (w : World) : Prop :=
  ∀ (b : Frame) (k : List Item) (cs : List Frame), ∃ e a' w', Q e a' w' ∧ Arrives P (lone (b.at a (.code c :: .inScope body :: k)) cs w) b k cs e a' w'
theorem inScope_of {body c : Code} {Q : Exit → Act → World → Prop} {a : Act} {w : World}
    (h : c.wp P (fun e a w => match e with | .goto l => (match findLabel body l with | some r => InScope P body r Q a w | none => Q (.goto l) a w) | e => Q e a w) a w) : InScope P body c Q a w := by
  intro b k cs
  obtain ⟨e, a1, w1, hq, harr⟩ := h b (.inScope body :: k) cs
  cases e with
  | normal => exact ⟨.normal, a1, w1, hq, Steps.trans harr (.one step_inScope)⟩
  | exit id => exact ⟨.exit id, a1, w1, hq, fun k' hk => harr k' (by simp [exitTo, hk])⟩
  | goto l =>
    simp only at hq
    split at hq
    · rename_i r hr
      obtain ⟨e2, a2, w2, hq2, harr2⟩ := hq b k cs
      refine ⟨e2, a2, w2, hq2, .of_steps (harr _ ?_) harr2⟩
      simp [gotoIn, hr]
    · rename_i hr
      exact ⟨.goto l, a1, w1, hq, fun k' hk => harr k' (by simp [gotoIn, hr, hk])⟩
  | ret => exact ⟨.ret, a1, w1, hq, harr⟩
  | panic ch => exact ⟨.panic ch, a1, w1, hq, harr⟩
  | outgrown => exact ⟨.outgrown, a1, w1, hq, harr⟩
theorem wp_scope_in {c : Code} {Q : Exit → Act → World → Prop} {a : Act} {w : World} (h : InScope P c c Q a w) : (Code.scope c).wp P Q a w := by
  intro b k cs
  obtain ⟨e, a1, w1, hq, harr⟩ := h b k cs
  exact ⟨e, a1, w1, hq, .of_steps (.one step_scope) harr⟩
theorem label_ok {n : Nat} : ∀ {c r : Code} {l : Nat}, codeOk X n c = true → findLabel c l = some r → codeOk X n r = true
  | .seq a b, r, l, hc, h => by
    simp only [codeOk, Bool.and_eq_true] at hc
    unfold findLabel at h
    split at h
    · rename_i rest hr
      cases h
      simp only [codeOk, Bool.and_eq_true]
      exact ⟨label_ok hc.1 hr, hc.2⟩
    · exact label_ok hc.2 h
  | .label l', r, l, hc, h => by
    unfold findLabel at h
    split at h
    · cases h; rfl
    · cases h
  | .skip, _, _, _, h | .region _ _ _, _, _, _, h | .cond _ _ _, _, _, _, h | .block _ _, _, _, _, h | .loop _, _, _, _, h | .rangeFunc _ _ _ _, _, _, _, h | .exit _, _, _, _, h | .scope _, _, _, _, h | .goto _, _, _, _, h | .ret, _, _, _, h | .refuse _, _, _, _, h => by
    simp [findLabel] at h

include H in
theorem exec_all : ∀ n, ExOk X P (exec X n) ∧
    (∀ c ρ s e ρ' s', exec X n (.loop c) ρ s = some (e, ρ', s') → ∀ (φ : Phi) (a : Act) (w : World) (Q : Exit → Act → World → Prop), codeOk X a.tmps.size c = true → EnvRel φ ρ a → GlobOk X φ → SRel X φ s.get w → Fresh φ s.size s'.size →
      (∀ φ' a' w', EnvRel φ' ρ' a' → a'.tmps.size = a.tmps.size → a'.defers = a.defers → SRel X φ' s'.get w' → Step φ φ' s s' w w' → Q (toExit e) a' w') → Code.rounds P c Q n a w) ∧
    (∀ whole c ρ s e ρ' s', exec.jump X n whole c ρ s = some (e, ρ', s') → Keep s s' ∧ ∀ (φ : Phi) (a : Act) (w : World) (Q : Exit → Act → World → Prop), codeOk X a.tmps.size c = true → codeOk X a.tmps.size whole = true → EnvRel φ ρ a → GlobOk X φ → SRel X φ s.get w → Fresh φ s.size s'.size →
      (∀ φ' a' w', EnvRel φ' ρ' a' → a'.tmps.size = a.tmps.size → a'.defers = a.defers → SRel X φ' s'.get w' → Step φ φ' s s' w w' → Q (toExit e) a' w') → InScope P whole c Q a w) := by
  intro n
  induction n with
  | zero =>
    refine ⟨fun c ρ s e ρ' s' h => ?_, fun c ρ s e ρ' s' h => ?_, fun whole c ρ s e ρ' s' h => ?_⟩
    · simp [exec] at h
    · simp [exec] at h
    · simp [exec.jump] at h
  | succ n ih =>
    obtain ⟨hA, hB, hC⟩ := ih
    have hcall := enter_ok H hA
    have loopB : ∀ c ρ s e ρ' s', exec X (n + 1) (.loop c) ρ s = some (e, ρ', s') → ∀ (φ : Phi) (a : Act) (w : World) (Q : Exit → Act → World → Prop), codeOk X a.tmps.size c = true → EnvRel φ ρ a → GlobOk X φ → SRel X φ s.get w → Fresh φ s.size s'.size →
      (∀ φ' a' w', EnvRel φ' ρ' a' → a'.tmps.size = a.tmps.size → a'.defers = a.defers → SRel X φ' s'.get w' → Step φ φ' s s' w w' → Q (toExit e) a' w') → Code.rounds P c Q (n + 1) a w := by
      intro c ρ s e ρ' s' h φ a w Q hok hr hg hs hf hQ
      simp only [exec] at h
      rw [rounds_succ]
      split at h
      · rename_i ρ1 s1 h1
        obtain ⟨k1, r1⟩ := hA _ _ _ _ _ _ h1
        have k2 := (hA _ _ _ _ _ _ h).1
        refine r1 φ a w _ hok hr hg hs (hf.sub (Nat.le_refl _) k2.1) fun φ1 a1 w1 q1 q2 q3 q4 q5 => ?_
        exact hB _ _ _ _ _ _ h φ1 a1 w1 Q (by rw [q2]; exact hok) q1 (hg.mono q5.le) q4 (q5.fresh hf) fun φ2 a2 w2 p1 p2 p3 p4 p5 => hQ φ2 a2 w2 p1 (by rw [p2, q2]) (by rw [p3, q3]) p4 (q5.trans p5 hf)
      · rename_i hne
        obtain ⟨k1, r1⟩ := hA _ _ _ _ _ _ h
        refine r1 φ a w _ hok hr hg hs hf fun φ1 a1 w1 q1 q2 q3 q4 q5 => ?_
        have := hQ φ1 a1 w1 q1 q2 q3 q4 q5
        cases e with
        | normal => exact absurd h (by intro h'; exact hne _ _ h')
        | exit id => exact this
        | goto l => exact this
        | ret => exact this
    refine ⟨fun c ρ s e ρ' s' h => ?_, loopB, fun whole c ρ s e ρ' s' h => ?_⟩
    · -- code
      cases c with
      | skip =>
        simp only [exec, Option.some.injEq, Prod.mk.injEq] at h
        obtain ⟨rfl, rfl, rfl⟩ := h
        exact ⟨Keep.refl _, fun φ a w Q hok hr hg hs hf hQ => wp_skip (hQ φ a w hr rfl rfl hs (Step.refl _ _ _))⟩
      | label l =>
        simp only [exec, Option.some.injEq, Prod.mk.injEq] at h
        obtain ⟨rfl, rfl, rfl⟩ := h
        exact ⟨Keep.refl _, fun φ a w Q hok hr hg hs hf hQ => wp_label (hQ φ a w hr rfl rfl hs (Step.refl _ _ _))⟩
      | exit id =>
        simp only [exec, Option.some.injEq, Prod.mk.injEq] at h
        obtain ⟨rfl, rfl, rfl⟩ := h
        exact ⟨Keep.refl _, fun φ a w Q hok hr hg hs hf hQ => wp_exit (hQ φ a w hr rfl rfl hs (Step.refl _ _ _))⟩
      | goto l =>
        simp only [exec, Option.some.injEq, Prod.mk.injEq] at h
        obtain ⟨rfl, rfl, rfl⟩ := h
        exact ⟨Keep.refl _, fun φ a w Q hok hr hg hs hf hQ => wp_goto (hQ φ a w hr rfl rfl hs (Step.refl _ _ _))⟩
      | ret =>
        simp only [exec, Option.some.injEq, Prod.mk.injEq] at h
        obtain ⟨rfl, rfl, rfl⟩ := h
        exact ⟨Keep.refl _, fun φ a w Q hok hr hg hs hf hQ => wp_ret (hQ φ a w hr rfl rfl hs (Step.refl _ _ _))⟩
      | region id ops draw =>
        simp only [exec, Option.map_eq_some_iff, Prod.mk.injEq] at h
        obtain ⟨⟨T, s2⟩, hreg, rfl, rfl, rfl⟩ := h
        refine ⟨region_keep hcall hreg, fun φ a w Q hok hr hg hs hf hQ => ?_⟩
        have hops : (Code.region id ops.toList.toArray draw) = Code.region id ops draw := by simp
        rw [← hops]
        simp only [codeOk, Bool.and_eq_true, List.all_eq_true] at hok
        exact region_sound H hcall hreg hok.1 (fun hd => by have := hok.2; rw [hd] at this; simpa using this) (Nat.le_refl _) hr hg hs hf hQ
      | seq x y =>
        simp only [exec] at h
        split at h
        · rename_i ρ1 s1 h1
          obtain ⟨k1, r1⟩ := hA _ _ _ _ _ _ h1
          obtain ⟨k2, r2⟩ := hA _ _ _ _ _ _ h
          refine ⟨k1.trans k2, fun φ a w Q hok hr hg hs hf hQ => wp_seq ?_⟩
          simp only [codeOk, Bool.and_eq_true] at hok
          refine r1 φ a w _ hok.1 hr hg hs (hf.sub (Nat.le_refl _) k2.1) fun φ1 a1 w1 q1 q2 q3 q4 q5 => ?_
          exact r2 φ1 a1 w1 Q (by rw [q2]; exact hok.2) q1 (hg.mono q5.le) q4 (q5.fresh hf) fun φ2 a2 w2 p1 p2 p3 p4 p5 => hQ φ2 a2 w2 p1 (by rw [p2, q2]) (by rw [p3, q3]) p4 (q5.trans p5 hf)
        · rename_i hne
          obtain ⟨k1, r1⟩ := hA _ _ _ _ _ _ h
          refine ⟨k1, fun φ a w Q hok hr hg hs hf hQ => wp_seq ?_⟩
          simp only [codeOk, Bool.and_eq_true] at hok
          refine r1 φ a w _ hok.1 hr hg hs hf fun φ1 a1 w1 q1 q2 q3 q4 q5 => ?_
          have := hQ φ1 a1 w1 q1 q2 q3 q4 q5
          cases e with
          | normal => exact absurd h (by intro h'; exact hne _ _ h')
          | exit id => exact this
          | goto l => exact this
          | ret => exact this
      | cond c x y =>
        simp only [exec] at h
        split at h
        · rename_i t ht
          obtain ⟨k1, r1⟩ := hA _ _ _ _ _ _ h
          refine ⟨k1, fun φ a w Q hok hr hg hs hf hQ => ?_⟩
          simp only [codeOk, Bool.and_eq_true] at hok
          have hc := evo_rel hr hg hok.1.1
          rw [ht] at hc
          refine wp_cond hc.inv_bool (r1 φ a w Q ?_ hr hg hs hf hQ)
          cases t
          · exact hok.2
          · exact hok.1.2
        · cases h
      | block id c =>
        simp only [exec] at h
        split at h
        · rename_i i ρ1 s1 h1
          obtain ⟨k1, r1⟩ := hA _ _ _ _ _ _ h1
          split at h
          · rename_i hid
            subst hid
            simp only [Option.some.injEq, Prod.mk.injEq] at h
            obtain ⟨rfl, rfl, rfl⟩ := h
            refine ⟨k1, fun φ a w Q hok hr hg hs hf hQ => wp_block (r1 φ a w _ hok hr hg hs hf fun φ1 a1 w1 q1 q2 q3 q4 q5 => ?_)⟩
            simp only [toExit, Exit.inBlock, if_pos rfl]
            exact hQ φ1 a1 w1 q1 q2 q3 q4 q5
          · rename_i hid
            simp only [Option.some.injEq, Prod.mk.injEq] at h
            obtain ⟨rfl, rfl, rfl⟩ := h
            refine ⟨k1, fun φ a w Q hok hr hg hs hf hQ => wp_block (r1 φ a w _ hok hr hg hs hf fun φ1 a1 w1 q1 q2 q3 q4 q5 => ?_)⟩
            simp only [toExit, Exit.inBlock, if_neg hid]
            exact hQ φ1 a1 w1 q1 q2 q3 q4 q5
        · rename_i hne
          obtain ⟨k1, r1⟩ := hA _ _ _ _ _ _ h
          refine ⟨k1, fun φ a w Q hok hr hg hs hf hQ => wp_block (r1 φ a w _ hok hr hg hs hf fun φ1 a1 w1 q1 q2 q3 q4 q5 => ?_)⟩
          have := hQ φ1 a1 w1 q1 q2 q3 q4 q5
          cases e with
          | normal => exact this
          | exit id => exact absurd h (by intro h'; exact hne _ _ _ h')
          | goto l => exact this
          | ret => exact this
      | loop c =>
        have hk : Keep s s' := by
          simp only [exec] at h
          split at h
          · rename_i ρ1 s1 h1
            exact (hA _ _ _ _ _ _ h1).1.trans (hA _ _ _ _ _ _ h).1
          · exact (hA _ _ _ _ _ _ h).1
        exact ⟨hk, fun φ a w Q hok hr hg hs hf hQ => wp_loop_rounds (n + 1) (loopB _ _ _ _ _ _ h φ a w Q hok hr hg hs hf hQ)⟩
      | scope c =>
        simp only [exec] at h
        obtain ⟨k1, r1⟩ := hC _ _ _ _ _ _ _ h
        exact ⟨k1, fun φ a w Q hok hr hg hs hf hQ => wp_scope_in (r1 φ a w Q hok hok hr hg hs hf hQ)⟩
      | rangeFunc f ps as b => simp [exec] at h
      | refuse why => simp [exec] at h
    · -- jumps
      simp only [exec.jump] at h
      split at h
      · rename_i l ρ1 s1 h1
        obtain ⟨k1, r1⟩ := hA _ _ _ _ _ _ h1
        split at h
        · rename_i r hlab
          obtain ⟨k2, r2⟩ := hC _ _ _ _ _ _ _ h
          refine ⟨k1.trans k2, fun φ a w Q hok hok2 hr hg hs hf hQ => inScope_of ?_⟩
          refine r1 φ a w _ hok hr hg hs (hf.sub (Nat.le_refl _) k2.1) fun φ1 a1 w1 q1 q2 q3 q4 q5 => ?_
          simp only [toExit, hlab]
          exact r2 φ1 a1 w1 Q (label_ok (by rw [q2]; exact hok2) hlab) (by rw [q2]; exact hok2) q1 (hg.mono q5.le) q4 (q5.fresh hf) fun φ2 a2 w2 p1 p2 p3 p4 p5 => hQ φ2 a2 w2 p1 (by rw [p2, q2]) (by rw [p3, q3]) p4 (q5.trans p5 hf)
        · rename_i hlab
          simp only [Option.some.injEq, Prod.mk.injEq] at h
          obtain ⟨rfl, rfl, rfl⟩ := h
          refine ⟨k1, fun φ a w Q hok hok2 hr hg hs hf hQ => inScope_of ?_⟩
          refine r1 φ a w _ hok hr hg hs hf fun φ1 a1 w1 q1 q2 q3 q4 q5 => ?_
          simp only [toExit, hlab]
          exact hQ φ1 a1 w1 q1 q2 q3 q4 q5
      · rename_i hne
        obtain ⟨k1, r1⟩ := hA _ _ _ _ _ _ h
        refine ⟨k1, fun φ a w Q hok hok2 hr hg hs hf hQ => inScope_of ?_⟩
        refine r1 φ a w _ hok hr hg hs hf fun φ1 a1 w1 q1 q2 q3 q4 q5 => ?_
        have := hQ φ1 a1 w1 q1 q2 q3 q4 q5
        cases e with
        | normal => exact this
        | exit id => exact this
        | goto l => exact absurd h (by intro h'; exact hne _ _ _ h')
        | ret => exact this

include H in
/-- WHAT THE EVALUATOR ANSWERS IS WHAT THE MACHINE ANSWERS. -/
theorem acall_sound {n f : Nat} {args : List Value} {s : St} {v : Value} {s' : St} (h : acall X n f args s = some (v, s')) {φ : Phi} {args' : Array Value} {w : World} (ha : VRels φ args args'.toList) (hg : GlobOk X φ) (hs : SRel X φ s.get w) (hf : Fresh φ s.size s'.size) :
    Calls P f args' w fun e w' => ∃ φ' v', e = .returned v' ∧ VRel φ' v v' ∧ SRel X φ' s'.get w' ∧ Step φ φ' s s' w w' :=
  (enter_ok H (exec_all H n).1 f args s v s' h).2.2 φ args' w ha hg hs hf
end
end Go.Proofs.Ytndedkpcfjnecaa.Ab
