/- The calculus as a function of the code: what is left to show, run by a simplifier. -/
import Derived.Test.YtndedkpcfjnecaaA21
set_option linter.unusedSimpArgs false
set_option linter.unusedVariables false
namespace Go.Proofs.Ytndedkpcfjnecaa.Ab

section
variable (X : Prg)
/-- One operation, and what is behind it. -/
def opV (op : Op) (ρ : Env) (s : St) (k : Value → St → Prop) : Prop := match isCall op with
  | some (f, args) => match funOf (evo ρ f) with
    | some (n, a, b) => WC X n (a.toList ++ args.toList.map (evo ρ) ++ b.toList) s k
    | none => False
  | none => match aop X (evo ρ) op s with
    | some (v, s') => k v s'
    | none => False
def wpS : List SO → Env → St → (Env → St → Prop) → Prop
  | [], ρ, s, K => K ρ s
  | o :: r, ρ, s, K => match wantS o.g ρ with
    | true => opV X o.op ρ s fun v s' => wpS r (ρ.put o.dst v) s' K
    | false => wpS r (ρ.put o.dst undef) s K
/-! Regions where something is read beside what writes or calls: it must read the same ahead of it and behind it. -/
structure SD where
  so : SO
  kind : Nat
  chk : List Nat
def lookN {α : Type} : List (Nat × α) → Nat → Option α
  | [], _ => none
  | p :: l, i => if p.1 = i then some p.2 else lookN l i
def holdsAll (pend : List (Nat × (St → Prop))) (s : St) : List Nat → Prop
  | [] => True
  | i :: l => (match lookN pend i with | some p => p s | none => True) ∧ holdsAll pend s l
def sameRead (op : Op) (ρ : Env) (v : Value) (s : St) : Prop := ∃ s2, aop X (evo ρ) op s = some (v, s2)
def readAll (hist : List (Nat × St)) (op : Op) (ρ : Env) (v : Value) : List Nat → Prop
  | [] => True
  | j :: l => (match lookN hist j with | some s => sameRead X op ρ v s | none => False) ∧ readAll hist op ρ v l
def aeqSelf (v : Value) : Prop := aeq 1000 v v = true
def wpD : List SD → Nat → List (Nat × St) → List (Nat × (St → Prop)) → Env → St → (Env → St → Prop) → Prop
  | [], _, _, _, ρ, s, K => K ρ s
  | o :: r, i, hist, pend, ρ, s, K =>
    match wantS o.so.g ρ with
    | true => opV X o.so.op ρ s fun v s' =>
        if o.kind = 1 then holdsAll pend s' o.chk ∧ wpD r (i + 1) ((i, s) :: hist) pend (ρ.put o.so.dst v) s' K
        else if o.kind = 2 then aeqSelf v ∧ readAll X hist o.so.op ρ v o.chk ∧ wpD r (i + 1) hist ((i, sameRead X o.so.op ρ v) :: pend) (ρ.put o.so.dst v) s' K
        else wpD r (i + 1) hist pend (ρ.put o.so.dst v) s' K
    | false => if o.kind = 1 then holdsAll pend s o.chk ∧ wpD r (i + 1) ((i, s) :: hist) pend (ρ.put o.so.dst undef) s K else wpD r (i + 1) hist pend (ρ.put o.so.dst undef) s K
def unord (bs : List Nat) (i j : Nat) : Bool := !((bs.getD i 0).testBit j) && !((bs.getD j 0).testBit i)
def kindOf (o : Oper) : Nat := if isEff o.op then 1 else if isNew X o.op then 0 else 2
def metaOf (ops : List Oper) : List (Nat × List Nat) := (iota ops.length).map fun i => match ops[i]? with
  | some o => (kindOf X o, (iota i).filter fun j => match ops[j]? with
    | some p => unord (befs ops) i j && ((kindOf X o == 1 && kindOf X p == 2) || (kindOf X o == 2 && kindOf X p == 1))
    | none => false)
  | none => (0, [])
def zipD : List SO → List (Nat × List Nat) → List SD
  | o :: l, m :: ms => ⟨o, m.1, m.2⟩ :: zipD l ms
  | _, _ => []
def wp : Code → Env → St → (Xit → Env → St → Prop) → Prop
  | .skip, ρ, s, Q => Q .normal ρ s
  | .label _, ρ, s, Q => Q .normal ρ s
  | .region _ ops draw, ρ, s, Q => if regOk X ops.toList draw = true then wpS X (ops.toList.map (strip1 ops)) ρ s (Q .normal)
    else statOk X ops.toList = true ∧ wpD X (zipD (ops.toList.map (strip1 ops)) (metaOf X ops.toList)) 0 [] [] ρ s (Q .normal)
  | .seq a b, ρ, s, Q => wp a ρ s fun e ρ s => match e with | .normal => wp b ρ s Q | e => Q e ρ s
  | .cond c a b, ρ, s, Q => match boolOf (evo ρ c) with | some true => wp a ρ s Q | some false => wp b ρ s Q | none => False
  | .block id c, ρ, s, Q => wp c ρ s (blockQ id Q)
  | .exit i, ρ, s, Q => Q (.exit i) ρ s
  | .goto l, ρ, s, Q => Q (.goto l) ρ s
  | .ret, ρ, s, Q => Q .ret ρ s
  | c, ρ, s, Q => W X c ρ s Q
end

section
variable {X : Prg} {ρ : Env} {s : St}
theorem WS_of_wpS {K : Env → St → Prop} : ∀ (l : List SO) (ρ : Env) (s : St), wpS X l ρ s K → WS X l ρ s K
  | [], ρ, s, h => ⟨0, ρ, s, rfl, h⟩
  | o :: r, ρ, s, h => by
    simp only [wpS] at h
    cases hw : wantS o.g ρ with
    | false =>
      rw [hw] at h
      obtain ⟨n, ρ', s', h1, h2⟩ := WS_of_wpS r _ _ h
      refine ⟨n, ρ', s', ?_, h2⟩
      rw [runS, hw]; exact h1
    | true =>
      rw [hw] at h
      simp only [opV] at h
      cases hc : isCall o.op with
      | some fa =>
        obtain ⟨f, args⟩ := fa
        rw [hc] at h
        simp only at h
        cases hf : funOf (evo ρ f) with
        | none => rw [hf] at h; exact h.elim
        | some kab =>
          obtain ⟨k, a, b⟩ := kab
          rw [hf] at h
          obtain ⟨n, v, s1, h1, h2⟩ := h
          obtain ⟨m, ρ2, s2, h2, h3⟩ := WS_of_wpS r _ _ h2
          refine ⟨max n m, ρ2, s2, ?_, h3⟩
          have e : stepS (enter (exec X (max n m)) X) X o.op ρ s = some (v, s1) := by
            rw [stepS_call hc, hf]
            exact call_le X (Nat.le_max_left n m) _ _ _ _ h1
          rw [runS, hw, if_pos rfl, e]
          exact runS_mono (call_le X (Nat.le_max_right n m)) _ _ _ _ h2
      | none =>
        rw [hc] at h
        simp only at h
        cases ha : aop X (evo ρ) o.op s with
        | none => rw [ha] at h; exact h.elim
        | some p =>
          obtain ⟨v, s1⟩ := p
          rw [ha] at h
          obtain ⟨n, ρ', s', h1, h2⟩ := WS_of_wpS r _ _ h
          refine ⟨n, ρ', s', ?_, h2⟩
          rw [runS, hw, if_pos rfl, stepS_aop hc, ha]
          exact h1
/-! What was checked along a run -/
def ChkD (X : Prg) (call : Caller) : List SD → Nat → List (Nat × St) → List (Nat × (St → Prop)) → Env → St → Prop
  | [], _, _, _, ρ, s => True
  | o :: r, i, hist, pend, ρ, s =>
    if wantS o.so.g ρ = true then match stepS call X o.so.op ρ s with
      | some (v, s') =>
        if o.kind = 1 then holdsAll pend s' o.chk ∧ ChkD X call r (i + 1) ((i, s) :: hist) pend (ρ.put o.so.dst v) s'
        else if o.kind = 2 then aeqSelf v ∧ readAll X hist o.so.op ρ v o.chk ∧ ChkD X call r (i + 1) hist ((i, sameRead X o.so.op ρ v) :: pend) (ρ.put o.so.dst v) s'
        else ChkD X call r (i + 1) hist pend (ρ.put o.so.dst v) s'
      | none => False
    else if o.kind = 1 then holdsAll pend s o.chk ∧ ChkD X call r (i + 1) ((i, s) :: hist) pend (ρ.put o.so.dst undef) s else ChkD X call r (i + 1) hist pend (ρ.put o.so.dst undef) s
theorem ChkD_mono {c d : Caller} (h : Cle c d) : ∀ (l : List SD) (i : Nat) (hist : List (Nat × St)) (pend : List (Nat × (St → Prop))) (ρ : Env) (s : St), ChkD X c l i hist pend ρ s → ChkD X d l i hist pend ρ s
  | [], _, _, _, _, _, _ => trivial
  | o :: r, i, hist, pend, ρ, s, hc => by
    simp only [ChkD] at hc ⊢
    split at hc
    · rename_i hw
      rw [if_pos hw]
      split at hc
      · rename_i v s' h1
        rw [stepS_mono h h1]
        simp only
        split at hc
        · rename_i hk; rw [if_pos hk]; exact ⟨hc.1, ChkD_mono h r _ _ _ _ _ hc.2⟩
        · rename_i hk
          rw [if_neg hk]
          split at hc
          · rename_i hk2; rw [if_pos hk2]; exact ⟨hc.1, hc.2.1, ChkD_mono h r _ _ _ _ _ hc.2.2⟩
          · rename_i hk2; rw [if_neg hk2]; exact ChkD_mono h r _ _ _ _ _ hc
      · exact hc.elim
    · rename_i hw
      rw [if_neg hw]
      split at hc
      · rename_i hk; rw [if_pos hk]; exact ⟨hc.1, ChkD_mono h r _ _ _ _ _ hc.2⟩
      · rename_i hk; rw [if_neg hk]; exact ChkD_mono h r _ _ _ _ _ hc
theorem run_of_wpD {K : Env → St → Prop} : ∀ (l : List SD) (i : Nat) (hist : List (Nat × St)) (pend : List (Nat × (St → Prop))) (ρ : Env) (s : St), (∀ o ∈ l, ∀ fa, isCall o.so.op = some fa → o.kind = 1) → wpD X l i hist pend ρ s K →
    ∃ n ρ' s', runS (enter (exec X n) X) X (l.map (·.so)) ρ s = some (ρ', s') ∧ K ρ' s' ∧ ChkD X (enter (exec X n) X) l i hist pend ρ s
  | [], i, hist, pend, ρ, s, hk, h => ⟨0, ρ, s, rfl, h, trivial⟩
  | o :: r, i, hist, pend, ρ, s, hk, h => by
    have hkr : ∀ o ∈ r, ∀ fa, isCall o.so.op = some fa → o.kind = 1 := fun p hp => hk p (List.mem_cons_of_mem _ hp)
    simp only [wpD] at h
    cases hw : wantS o.so.g ρ with
    | false =>
      rw [hw] at h
      simp only at h
      split at h
      · rename_i hk1
        obtain ⟨n, ρ', s', h1, h2, h3⟩ := run_of_wpD r _ _ _ _ _ hkr h.2
        refine ⟨n, ρ', s', ?_, h2, ?_⟩
        · simp only [List.map_cons, runS, hw]; exact h1
        · simp only [ChkD, hw, hk1, Bool.false_eq_true, if_false, if_true]; exact ⟨h.1, h3⟩
      · rename_i hk1
        obtain ⟨n, ρ', s', h1, h2, h3⟩ := run_of_wpD r _ _ _ _ _ hkr h
        refine ⟨n, ρ', s', ?_, h2, ?_⟩
        · simp only [List.map_cons, runS, hw]; exact h1
        · simp only [ChkD, hw, hk1, Bool.false_eq_true, if_false]; exact h3
    | true =>
      rw [hw] at h
      simp only [opV] at h
      cases hc : isCall o.so.op with
      | some fa =>
        obtain ⟨f, args⟩ := fa
        have hk1 := hk o List.mem_cons_self _ hc
        rw [hc] at h
        simp only at h
        cases hf : funOf (evo ρ f) with
        | none => rw [hf] at h; exact h.elim
        | some kab =>
          obtain ⟨k, a, b⟩ := kab
          rw [hf] at h
          simp only [hk1, if_true] at h
          obtain ⟨n, v, s1, h1, h4, h2⟩ := h
          obtain ⟨m, ρ2, s2, h2, h3, h5⟩ := run_of_wpD r _ _ _ _ _ hkr h2
          have e : stepS (enter (exec X (max n m)) X) X o.so.op ρ s = some (v, s1) := by
            rw [stepS_call hc, hf]
            exact call_le X (Nat.le_max_left n m) _ _ _ _ h1
          refine ⟨max n m, ρ2, s2, ?_, h3, ?_⟩
          · rw [List.map_cons, runS, hw, if_pos rfl, e]
            exact runS_mono (call_le X (Nat.le_max_right n m)) _ _ _ _ h2
          · simp only [ChkD, hw, e, hk1, if_true]
            exact ⟨h4, ChkD_mono (call_le X (Nat.le_max_right n m)) _ _ _ _ _ _ h5⟩
      | none =>
        rw [hc] at h
        simp only at h
        cases ha : aop X (evo ρ) o.so.op s with
        | none => rw [ha] at h; exact h.elim
        | some p =>
          obtain ⟨v, s1⟩ := p
          rw [ha] at h
          simp only at h
          have e : ∀ call, stepS call X o.so.op ρ s = some (v, s1) := fun call => by rw [stepS_aop hc, ha]
          split at h
          · rename_i hk1
            obtain ⟨n, ρ', s', h1, h2, h3⟩ := run_of_wpD r _ _ _ _ _ hkr h.2
            refine ⟨n, ρ', s', ?_, h2, ?_⟩
            · rw [List.map_cons, runS, hw, if_pos rfl, e]; exact h1
            · simp only [ChkD, hw, e, hk1, if_true]; exact ⟨h.1, h3⟩
          · rename_i hk1
            split at h
            · rename_i hk2
              obtain ⟨n, ρ', s', h1, h2, h3⟩ := run_of_wpD r _ _ _ _ _ hkr h.2.2
              refine ⟨n, ρ', s', ?_, h2, ?_⟩
              · rw [List.map_cons, runS, hw, if_pos rfl, e]; exact h1
              · simp only [ChkD, hw, e, hk1, hk2, if_true, if_false]; exact ⟨h.1, h.2.1, h3⟩
            · rename_i hk2
              obtain ⟨n, ρ', s', h1, h2, h3⟩ := run_of_wpD r _ _ _ _ _ hkr h
              refine ⟨n, ρ', s', ?_, h2, ?_⟩
              · rw [List.map_cons, runS, hw, if_pos rfl, e]; exact h1
              · simp only [ChkD, hw, e, hk1, hk2, if_true, if_false]; exact h3
theorem holdsAll_mem {pend : List (Nat × (St → Prop))} {s : St} : ∀ {l : List Nat}, holdsAll pend s l → ∀ i ∈ l, ∀ p, lookN pend i = some p → p s
  | [], _, i, hi, _, _ => by cases hi
  | j :: l, h, i, hi, p, hp => by
    rcases List.mem_cons.1 hi with rfl | hi
    · have := h.1; rw [hp] at this; exact this
    · exact holdsAll_mem h.2 i hi p hp
theorem readAll_mem {hist : List (Nat × St)} {op : Op} {ρ : Env} {v : Value} : ∀ {l : List Nat}, readAll X hist op ρ v l → ∀ j ∈ l, ∃ s, lookN hist j = some s ∧ sameRead X op ρ v s
  | [], _, i, hi => by cases hi
  | j :: l, h, i, hi => by
    rcases List.mem_cons.1 hi with rfl | hi
    · have := h.1
      split at this
      · rename_i s hs; exact ⟨s, hs, this⟩
      · exact this.elim
    · exact readAll_mem h.2 i hi
theorem zipD_get : ∀ (l : List SO) (m : List (Nat × List Nat)) (i : Nat) (o : SO) (p : Nat × List Nat), l[i]? = some o → m[i]? = some p → (zipD l m)[i]? = some ⟨o, p.1, p.2⟩
  | [], _, i, _, _, h, _ => by simp at h
  | _ :: _, [], i, _, _, _, h => by simp at h
  | o :: l, m :: ms, 0, _, _, h1, h2 => by simp at h1 h2; subst h1; subst h2; rfl
  | o :: l, m :: ms, i + 1, _, _, h1, h2 => by simpa [zipD] using zipD_get l ms i _ _ (by simpa using h1) (by simpa using h2)
theorem zipD_map : ∀ (l : List SO) (m : List (Nat × List Nat)), l.length = m.length → (zipD l m).map (·.so) = l
  | [], [], _ => rfl
  | [], _ :: _, h => by simp at h
  | _ :: _, [], h => by simp at h
  | o :: l, m :: ms, h => by simp [zipD, zipD_map l ms (by simpa using h)]
theorem iota_len : ∀ n, (iota n).length = n
  | 0 => rfl
  | n + 1 => by simp [iota, iota_len n]
theorem iota_get : ∀ (n i : Nat), i < n → (iota n)[i]? = some i
  | 0, i, h => by omega
  | n + 1, i, h => by
    rw [iota]
    by_cases hi : i < n
    · rw [List.getElem?_append_left (by rw [iota_len]; exact hi)]; exact iota_get n i hi
    · have : i = n := by omega
      subst this
      rw [List.getElem?_append_right (by rw [iota_len]; exact Nat.le_refl _), iota_len]; simp
/-- What is checked along the run is what is asked of the region. -/
theorem readsOk_chk {call : Caller} {ops : List Oper} {ρ T : Env} {s s' : St} (hst : statOk X ops = true) (hrun : runOps call X ops.toArray ops ρ s = some (T, s')) (hc : ChkD X call (zipD (ops.map (strip1 ops.toArray)) (metaOf X ops)) 0 [] [] ρ s) :
    readsOk X ops T (trace call X ops.toArray ops ρ s) = true := by
  obtain ⟨R, S, HT⟩ := trace_spec ops ρ s T s' hrun
  have HS := stat_of hst
  have hmeta : ∀ i o, ops[i]? = some o → (metaOf X ops)[i]? = some (kindOf X o, (iota i).filter fun j => match ops[j]? with
    | some p => unord (befs ops) i j && ((kindOf X o == 1 && kindOf X p == 2) || (kindOf X o == 2 && kindOf X p == 1))
    | none => false) := by
    intro i o ho
    have hl := (List.getElem?_eq_some_iff.1 ho).1
    unfold metaOf
    rw [List.getElem?_map, iota_get _ _ hl]
    simp only [Option.map_some, ho]
  have hz : ∀ i o, ops[i]? = some o → (zipD (ops.map (strip1 ops.toArray)) (metaOf X ops))[i]? = some (SD.mk (strip1 ops.toArray o) (kindOf X o) ((iota i).filter fun j => match ops[j]? with
    | some p => unord (befs ops) i j && ((kindOf X o == 1 && kindOf X p == 2) || (kindOf X o == 2 && kindOf X p == 1))
    | none => false)) := by
    intro i o ho
    exact zipD_get _ _ i _ _ (by rw [List.getElem?_map, ho]; rfl) (hmeta i o ho)
  generalize hL : zipD (ops.map (strip1 ops.toArray)) (metaOf X ops) = L at hc hz
  -- along the run
  have main : ∀ m, m ≤ ops.length → ∃ hist pend, ChkD X call (L.drop m) m hist pend (R m) (S m) ∧ (∀ j p, j < m → ops[j]? = some p → kindOf X p = 1 → lookN hist j = some (S j)) ∧
      (∀ i o, i < m → ops[i]? = some o → kindOf X o = 2 → wantedE ops.toArray o (R i) = true → ∃ v, lookN pend i = some (sameRead X o.op (R i) v) ∧ aeqSelf v ∧ (∀ d, o.dst = some d → T.get d = v) ∧
        (∀ j p, j < i → ops[j]? = some p → kindOf X p = 1 → unord (befs ops) i j = true → sameRead X o.op (R i) v (S j)) ∧
        (∀ j p, i < j → j < m → ops[j]? = some p → kindOf X p = 1 → unord (befs ops) j i = true → sameRead X o.op (R i) v (S (j + 1)))) ∧
      (∀ q ∈ pend, q.1 < m) ∧ (∀ q ∈ hist, q.1 < m) := by
    intro m
    induction m with
    | zero => intro _; exact ⟨[], [], by rw [List.drop_zero, HT.r0, HT.s0]; exact hc, fun j p h => by omega, fun i o h => by omega, fun q hq => by simp at hq, fun q hq => by simp at hq⟩
    | succ m ih =>
      intro hm
      obtain ⟨hist, pend, h1, h2, h3, h4, h4h⟩ := ih (by omega)
      have hlt : m < ops.length := by omega
      have ho := List.getElem?_eq_getElem hlt
      generalize ops[m] = o at ho
      have hLm := hz m o ho
      have hLl : m < L.length := (List.getElem?_eq_some_iff.1 hLm).1
      have hLe : L[m] = _ := (List.getElem?_eq_some_iff.1 hLm).2
      rw [List.drop_eq_getElem_cons hLl, hLe] at h1
      simp only [ChkD] at h1
      have hop : (strip1 ops.toArray o).op = o.op := rfl
      have hds : (strip1 ops.toArray o).dst = o.dst := rfl
      rw [hop, hds] at h1
      have pfresh : ∀ x : St → Prop, ∀ i, i < m → lookN ((m, x) :: pend) i = lookN pend i := fun x i hi => by simp only [lookN]; rw [if_neg (by omega)]
      have hfresh : ∀ x : St, ∀ i, i < m → lookN ((m, x) :: hist) i = lookN hist i := fun x i hi => by simp only [lookN]; rw [if_neg (by omega)]
      -- an effect: the reads ahead of it
      have eff : ∀ s1, kindOf X o = 1 → holdsAll pend s1 ((iota m).filter fun j => match ops[j]? with
          | some p => unord (befs ops) m j && ((kindOf X o == 1 && kindOf X p == 2) || (kindOf X o == 2 && kindOf X p == 1))
          | none => false) → S (m + 1) = s1 → ∀ i p, i < m → ops[i]? = some p → kindOf X p = 2 → wantedE ops.toArray p (R i) = true → unord (befs ops) m i = true → ∀ v, lookN pend i = some (sameRead X p.op (R i) v) → sameRead X p.op (R i) v (S (m + 1)) := by
        intro s1 hk hh hs1 i p hi hp hkp hw hu v hv
        have hmem : i ∈ (iota m).filter fun j => match ops[j]? with
          | some p => unord (befs ops) m j && ((kindOf X o == 1 && kindOf X p == 2) || (kindOf X o == 2 && kindOf X p == 1))
          | none => false := by
          rw [List.mem_filter]
          exact ⟨mem_iota.2 hi, by rw [hp]; simp [hu, hk, hkp]⟩
        have := holdsAll_mem hh i hmem _ hv
        rw [hs1]; exact this
      have old : ∀ (hist' : List (Nat × St)) (pend' : List (Nat × (St → Prop))), ChkD X call (L.drop (m + 1)) (m + 1) hist' pend' (R (m + 1)) (S (m + 1)) →
          (∀ i, i < m → lookN pend' i = lookN pend i) → (∀ i, i < m → lookN hist' i = lookN hist i) → (kindOf X o = 1 → lookN hist' m = some (S m)) →
          (kindOf X o = 2 → wantedE ops.toArray o (R m) = true → ∃ v, lookN pend' m = some (sameRead X o.op (R m) v) ∧ aeqSelf v ∧ (∀ d, o.dst = some d → T.get d = v) ∧ (∀ j p, j < m → ops[j]? = some p → kindOf X p = 1 → unord (befs ops) m j = true → sameRead X o.op (R m) v (S j))) →
          (kindOf X o = 1 → ∀ i p, i < m → ops[i]? = some p → kindOf X p = 2 → wantedE ops.toArray p (R i) = true → unord (befs ops) m i = true → ∀ v, lookN pend i = some (sameRead X p.op (R i) v) → sameRead X p.op (R i) v (S (m + 1))) →
          (∀ q ∈ pend', q.1 < m + 1) → (∀ q ∈ hist', q.1 < m + 1) →
          ∃ hist pend, ChkD X call (L.drop (m + 1)) (m + 1) hist pend (R (m + 1)) (S (m + 1)) ∧ (∀ j p, j < m + 1 → ops[j]? = some p → kindOf X p = 1 → lookN hist j = some (S j)) ∧
      (∀ i o, i < m + 1 → ops[i]? = some o → kindOf X o = 2 → wantedE ops.toArray o (R i) = true → ∃ v, lookN pend i = some (sameRead X o.op (R i) v) ∧ aeqSelf v ∧ (∀ d, o.dst = some d → T.get d = v) ∧
        (∀ j p, j < i → ops[j]? = some p → kindOf X p = 1 → unord (befs ops) i j = true → sameRead X o.op (R i) v (S j)) ∧
        (∀ j p, i < j → j < m + 1 → ops[j]? = some p → kindOf X p = 1 → unord (befs ops) j i = true → sameRead X o.op (R i) v (S (j + 1)))) ∧
      (∀ q ∈ pend, q.1 < m + 1) ∧ (∀ q ∈ hist, q.1 < m + 1) := by
        intro hist' pend' g1 g2 g2h g3 g4 g5 g6 g6h
        refine ⟨hist', pend', g1, fun j p hj hp hk => ?_, fun i p hi hp hk hw => ?_, g6, g6h⟩
        · by_cases hjm : j = m
          · subst hjm; rw [ho] at hp; cases hp; exact g3 hk
          · rw [g2h j (by omega)]; exact h2 j p (by omega) hp hk
        · by_cases him : i = m
          · subst him; rw [ho] at hp; cases hp
            obtain ⟨v, q1, q2, q3, q4⟩ := g4 hk hw
            exact ⟨v, q1, q2, q3, q4, fun j p hj1 hj2 => by omega⟩
          · obtain ⟨v, q1, q2, q3, q4, q5⟩ := h3 i p (by omega) hp hk hw
            refine ⟨v, by rw [g2 i (by omega)]; exact q1, q2, q3, q4, fun j p2 hj1 hj2 hp2 hk2 hu => ?_⟩
            by_cases hjm : j = m
            · subst hjm; rw [ho] at hp2; cases hp2
              exact g5 hk2 i p (by omega) hp hk hw hu v q1
            · exact q5 j p2 hj1 (by omega) hp2 hk2 hu
      rcases HT.step m o ho with ⟨hw, v, hv, hR⟩ | ⟨hw, hS, hR⟩
      · have hw2 : wantS (strip1 ops.toArray o).g (R m) = true := by rw [← wantS_strip]; exact hw
        rw [if_pos hw2] at h1
        have hv2 : stepS call X o.op (R m) (S m) = some (v, S (m + 1)) := hv
        rw [hv2] at h1
        simp only at h1
        have hTd : ∀ d, o.dst = some d → T.get d = v := fun d hd => by
          rw [← HT.rn, R_keep HT d (show m + 1 ≤ ops.length by omega) (Nat.le_refl _) fun k p h1 h2 h3 => HS.dst k m p o d h3 ho (by omega) hd, hR, hd]
          simp [Env.put, Env.get_set]
        split at h1
        · rename_i hk
          refine old ((m, S m) :: hist) pend (by rw [hR]; exact h1.2) (fun i hi => rfl) (fun i hi => hfresh _ i hi) (fun _ => by simp [lookN]) (fun hk2 => by rw [hk] at hk2; cases hk2) (fun _ => eff _ hk h1.1 rfl) (fun q hq => by have := h4 q hq; omega) (fun q hq => by
            rcases List.mem_cons.1 hq with rfl | hq
            · exact Nat.lt_succ_self m
            · have := h4h q hq; omega)
        · rename_i hk
          split at h1
          · rename_i hk2
            refine old hist ((m, sameRead X o.op (R m) v) :: pend) (by rw [hR]; exact h1.2.2) (fun i hi => pfresh _ i hi) (fun i hi => rfl) (fun hk3 => absurd hk3 hk) (fun _ _ => ⟨v, by simp [lookN], h1.1, hTd, fun j p hj hp hkp hu => ?_⟩) (fun hk3 => absurd hk3 hk) (fun q hq => by
              rcases List.mem_cons.1 hq with rfl | hq
              · exact Nat.lt_succ_self m
              · have := h4 q hq; omega) (fun q hq => by have := h4h q hq; omega)
            have hmem : j ∈ (iota m).filter fun j => match ops[j]? with
              | some p => unord (befs ops) m j && ((kindOf X o == 1 && kindOf X p == 2) || (kindOf X o == 2 && kindOf X p == 1))
              | none => false := by
              rw [List.mem_filter]
              exact ⟨mem_iota.2 hj, by rw [hp]; simp [hu, hk2, hkp]⟩
            obtain ⟨s0, q1, q2⟩ := readAll_mem h1.2.1 j hmem
            rw [h2 j p hj hp hkp] at q1
            cases q1
            exact q2
          · rename_i hk2
            exact old hist pend (by rw [hR]; exact h1) (fun i hi => rfl) (fun i hi => rfl) (fun hk3 => absurd hk3 hk) (fun hk3 => absurd hk3 hk2) (fun hk3 => absurd hk3 hk) (fun q hq => by have := h4 q hq; omega) (fun q hq => by have := h4h q hq; omega)
      · have hw2 : ¬ wantS (strip1 ops.toArray o).g (R m) = true := by rw [← wantS_strip, hw]; simp
        rw [if_neg hw2] at h1
        split at h1
        · rename_i hk
          refine old ((m, S m) :: hist) pend (by rw [hR, hS]; exact h1.2) (fun i hi => rfl) (fun i hi => hfresh _ i hi) (fun _ => by simp [lookN]) (fun hk2 => by rw [hk] at hk2; cases hk2) (fun _ => eff _ hk h1.1 hS) (fun q hq => by have := h4 q hq; omega) (fun q hq => by
            rcases List.mem_cons.1 hq with rfl | hq
            · exact Nat.lt_succ_self m
            · have := h4h q hq; omega)
        · rename_i hk
          exact old hist pend (by rw [hR, hS]; exact h1) (fun i hi => rfl) (fun i hi => rfl) (fun hk3 => absurd hk3 hk) (fun _ hw3 => by rw [hw] at hw3; cases hw3) (fun hk3 => absurd hk3 hk) (fun q hq => by have := h4 q hq; omega) (fun q hq => by have := h4h q hq; omega)
  obtain ⟨_, _, _, _, h3, _⟩ := main ops.length (Nat.le_refl _)
  unfold readsOk
  rw [Bool.or_eq_true]
  right
  rw [List.all_eq_true]
  intro i hi
  have hil := mem_iota.1 hi
  have ho := List.getElem?_eq_getElem hil
  generalize ops[i] = o at ho
  rw [ho, HT.tr i (by omega)]
  simp only [Bool.or_eq_true]
  by_cases he : isEff o.op = true
  · exact .inl (.inl he)
  · by_cases hn : isNew X o.op = true
    · exact .inl (.inr hn)
    · right
      rw [List.all_eq_true]
      intro j hj
      unfold effsOf at hj
      rw [List.mem_filter] at hj
      have hjl := mem_iota.1 hj.1
      have hp := List.getElem?_eq_getElem hjl
      generalize ops[j] = p at hp
      have hep : isEff p.op = true := by have := hj.2; rw [hp] at this; exact this
      have hk : kindOf X o = 2 := by simp [kindOf, he, hn]
      have hkp : kindOf X p = 1 := by simp [kindOf, hep]
      simp only [Bool.or_eq_true, Bool.not_eq_true']
      by_cases hu : unord (befs ops) i j = true
      · by_cases hw : wantedE ops.toArray o (R i) = true
        · right
          obtain ⟨v, _, q2, q3, q4, q5⟩ := h3 i o hil ho hk hw
          have fin : ∀ m, m ≤ ops.length → sameRead X o.op (R i) v (S m) → sameAt X T o (R i) ((trace call X ops.toArray ops ρ s)[m]?) = true := by
            intro m hm hr
            rw [HT.tr m hm]
            obtain ⟨s2, hr⟩ := hr
            unfold sameAt
            simp only [hr]
            cases hd : o.dst with
            | none => rfl
            | some d =>
              simp only
              rw [q3 d hd]; exact q2
          rcases Nat.lt_trichotomy j i with hlt | heq | hgt
          · rw [if_pos hlt]; exact fin j (by omega) (q4 j p hlt hp hkp hu)
          · subst heq; rw [ho] at hp; cases hp; rw [hk] at hkp; cases hkp
          · rw [if_neg (by omega)]
            have hu2 : unord (befs ops) j i = true := by unfold unord at hu ⊢; rw [Bool.and_comm]; exact hu
            exact fin (j + 1) (by omega) (q5 j p hgt hjl hp hkp hu2)
        · left; right; simpa using hw
      · left; left
        unfold unord at hu
        simp only [Bool.and_eq_true, Bool.not_eq_true', not_and, Bool.not_eq_false] at hu
        by_cases hb : ((befs ops).getD i 0).testBit j = true
        · exact .inl hb
        · exact .inr (hu (by simpa using hb))
theorem W_regionD {id : Nat} {ops : Array Oper} {draw : Bool} {Q : Xit → Env → St → Prop} (hst : statOk X ops.toList = true) (h : wpD X (zipD (ops.toList.map (strip1 ops)) (metaOf X ops.toList)) 0 [] [] ρ s (Q .normal)) : W X (.region id ops draw) ρ s Q := by
  have hkind : ∀ o ∈ zipD (ops.toList.map (strip1 ops)) (metaOf X ops.toList), ∀ fa, isCall o.so.op = some fa → o.kind = 1 := by
    intro o ho fa hfa
    obtain ⟨i, hi⟩ := List.getElem?_of_mem ho
    have hlen : (ops.toList.map (strip1 ops)).length = (metaOf X ops.toList).length := by simp [metaOf, iota_len]
    have hil : i < ops.toList.length := by
      have h1 := (List.getElem?_eq_some_iff.1 hi).1
      have h2 := congrArg List.length (zipD_map _ _ hlen)
      simp only [List.length_map] at h2
      omega
    have hoi := List.getElem?_eq_getElem hil
    generalize ops.toList[i] = p at hoi
    have hm : (metaOf X ops.toList)[i]? = some (kindOf X p, (iota i).filter fun j => match ops.toList[j]? with
      | some q => unord (befs ops.toList) i j && ((kindOf X p == 1 && kindOf X q == 2) || (kindOf X p == 2 && kindOf X q == 1))
      | none => false) := by
      unfold metaOf
      rw [List.getElem?_map, iota_get _ _ hil]
      simp only [Option.map_some, hoi]
    have := zipD_get _ _ i _ _ (show (ops.toList.map (strip1 ops))[i]? = some (strip1 ops p) by rw [List.getElem?_map, hoi]; rfl) hm
    rw [hi] at this
    cases this
    have hc : isCall p.op = some fa := hfa
    have : isEff p.op = true := by
      unfold isCall at hc
      split at hc
      · rename_i hop; rw [hop]; rfl
      · cases hc
    simp [kindOf, this]
  obtain ⟨n, T, s', h1, h2, h3⟩ := run_of_wpD _ _ _ _ _ _ hkind h
  have hlen : (ops.toList.map (strip1 ops)).length = (metaOf X ops.toList).length := by simp [metaOf, iota_len]
  rw [zipD_map _ _ hlen] at h1
  have hrun : runOps (enter (exec X n) X) X ops.toList.toArray ops.toList ρ s = some (T, s') := by rw [runS_strip]; simpa using h1
  refine ⟨n + 1, .normal, T, s', ?_, h2⟩
  rw [exec, Option.map_eq_some_iff]
  refine ⟨(T, s'), ?_, rfl⟩
  unfold region
  rw [hrun]
  simp only
  cases draw with
  | false => rfl
  | true =>
    rw [if_pos rfl, if_pos]
    exact readsOk_chk hst hrun (by simpa using h3)
theorem W_of_wp : ∀ (c : Code) (ρ : Env) (s : St) (Q : Xit → Env → St → Prop), wp X c ρ s Q → W X c ρ s Q
  | .skip, ρ, s, Q, h => W_skip h
  | .label _, ρ, s, Q, h => W_label h
  | .region id ops draw, ρ, s, Q, h => by
    simp only [wp] at h
    split at h
    · rename_i hok
      exact W_region hok fun K hK => by subst hK; exact WS_of_wpS _ _ _ h
    · exact W_regionD h.1 h.2
  | .seq a b, ρ, s, Q, h => W_seq (W_mono (W_of_wp a ρ s _ h) fun e ρ' s' h' => by
      cases e with
      | normal => exact W_of_wp b ρ' s' Q h'
      | _ => exact h')
  | .cond c a b, ρ, s, Q, h => by
    simp only [wp] at h
    generalize hv : evo ρ c = v at h
    cases v with
    | bool t => cases t with
      | true => exact W_cond_true hv (W_of_wp a ρ s Q h)
      | false => exact W_cond_false hv (W_of_wp b ρ s Q h)
    | _ => exact h.elim
  | .block id c, ρ, s, Q, h => W_block (W_of_wp c ρ s _ h)
  | .exit i, ρ, s, Q, h => W_exit h
  | .goto l, ρ, s, Q, h => W_goto h
  | .ret, ρ, s, Q, h => W_ret h
  | .loop _, _, _, _, h | .scope _, _, _, _, h | .rangeFunc _ _ _ _, _, _, _, h | .refuse _, _, _, _, h => h

/-! ### Its rules -/
def seqP (X : Prg) (b : Code) (Q : Xit → Env → St → Prop) (e : Xit) (ρ : Env) (s : St) : Prop := match e with | .normal => wp X b ρ s Q | e => Q e ρ s
theorem seqP_normal {b : Code} {Q : Xit → Env → St → Prop} : seqP X b Q .normal ρ s = wp X b ρ s Q := rfl
theorem seqP_exit {b : Code} {Q : Xit → Env → St → Prop} {i : Nat} : seqP X b Q (.exit i) ρ s = Q (.exit i) ρ s := rfl
theorem seqP_goto {b : Code} {Q : Xit → Env → St → Prop} {i : Nat} : seqP X b Q (.goto i) ρ s = Q (.goto i) ρ s := rfl
theorem seqP_ret {b : Code} {Q : Xit → Env → St → Prop} : seqP X b Q .ret ρ s = Q .ret ρ s := rfl
theorem blockQ_normal {i : Nat} {Q : Xit → Env → St → Prop} : blockQ i Q .normal ρ s = Q .normal ρ s := rfl
theorem blockQ_exit {i j : Nat} {Q : Xit → Env → St → Prop} : blockQ i Q (.exit j) ρ s = if j = i then Q .normal ρ s else Q (.exit j) ρ s := rfl
theorem blockQ_goto {i j : Nat} {Q : Xit → Env → St → Prop} : blockQ i Q (.goto j) ρ s = Q (.goto j) ρ s := rfl
theorem blockQ_ret {i : Nat} {Q : Xit → Env → St → Prop} : blockQ i Q .ret ρ s = Q .ret ρ s := rfl
def rtP (X : Prg) (rs : List ResultVar) (Q : Value → St → Prop) : Xit → Env → St → Prop := retQ X rs Q
def resK (o : Option (List Value)) (s : St) (Q : Value → St → Prop) : Prop := match o with | some vs => Q (tupv vs) s | none => False
theorem resK_some {vs : List Value} {Q : Value → St → Prop} : resK (some vs) s Q = Q (tupv vs) s := rfl
theorem rtP_ret {rs : List ResultVar} {Q : Value → St → Prop} : rtP X rs Q .ret ρ s = resK (resvs X ρ s rs) s Q := by
  show bindO _ _ = _
  unfold resK
  cases resvs X ρ s rs with
  | none => exact bindO_none _
  | some vs => exact bindO_some _ _
theorem rtP_normal {rs : List ResultVar} {Q : Value → St → Prop} : rtP X rs Q .normal ρ s = resK (resvs X ρ s rs) s Q := rtP_ret
theorem resvs_nil : resvs X ρ s [] = some [] := rfl
theorem resvs_tmp {t : Nat} {rs : List ResultVar} : resvs X ρ s (.tmp t :: rs) = (resvs X ρ s rs).map (ρ.get t :: ·) := by
  simp only [resvs, resv]
  cases resvs X ρ s rs <;> rfl
def consO (a : Option Value) (b : Option (List Value)) : Option (List Value) := match a, b with | some v, some l => some (v :: l) | _, _ => none
theorem consO_some {v : Value} {l : List Value} : consO (some v) (some l) = some (v :: l) := rfl
theorem resvs_cell {a t : Nat} {rs : List ResultVar} : resvs X ρ s (.cell a t :: rs) = consO (loadv X t (ρ.get a) s) (resvs X ρ s rs) := by
  simp only [resvs, resv, consO]
  cases loadv X t (ρ.get a) s <;> cases resvs X ρ s rs <;> rfl
theorem tupv_nil : tupv [] = undef := rfl
theorem tupv_one {v : Value} : tupv [v] = v := rfl
theorem tupv_more {a b : Value} {l : List Value} : tupv (a :: b :: l) = .tuple (a :: b :: l).toArray := rfl


/-! Codes by their names -/
theorem n_seq {c a b : Code} (h : c = .seq a b) {Q : Xit → Env → St → Prop} : wp X c ρ s Q = wp X a ρ s (seqP X b Q) := by subst h; rfl
def condP (X : Prg) (t : Option Bool) (a b : Code) (ρ : Env) (s : St) (Q : Xit → Env → St → Prop) : Prop := match t with | some true => wp X a ρ s Q | some false => wp X b ρ s Q | none => False
theorem condP_true {a b : Code} {Q : Xit → Env → St → Prop} : condP X (some true) a b ρ s Q = wp X a ρ s Q := rfl
theorem condP_false {a b : Code} {Q : Xit → Env → St → Prop} : condP X (some false) a b ρ s Q = wp X b ρ s Q := rfl
theorem condP_dec {p : Prop} [Decidable p] {a b : Code} {Q : Xit → Env → St → Prop} (h1 : p → wp X a ρ s Q) (h2 : ¬ p → wp X b ρ s Q) : condP X (some (decide p)) a b ρ s Q := by
  by_cases h : p
  · rw [decide_eq_true h]; exact h1 h
  · rw [decide_eq_false h]; exact h2 h
theorem condP_ndec {p : Prop} [Decidable p] {a b : Code} {Q : Xit → Env → St → Prop} (h1 : ¬ p → wp X a ρ s Q) (h2 : p → wp X b ρ s Q) : condP X (some (!decide p)) a b ρ s Q := by
  by_cases h : p
  · rw [decide_eq_true h]; exact h2 h
  · rw [decide_eq_false h]; exact h1 h
theorem condP_split {t : Bool} {a b : Code} {Q : Xit → Env → St → Prop} (h1 : t = true → wp X a ρ s Q) (h2 : t = false → wp X b ρ s Q) : condP X (some t) a b ρ s Q := by
  cases t with
  | true => exact h1 rfl
  | false => exact h2 rfl
theorem n_cond {c a b : Code} {x : Operand} (h : c = .cond x a b) {Q : Xit → Env → St → Prop} : wp X c ρ s Q = condP X (boolOf (evo ρ x)) a b ρ s Q := by subst h; rfl
theorem n_block {c a : Code} {i : Nat} (h : c = .block i a) {Q : Xit → Env → St → Prop} : wp X c ρ s Q = wp X a ρ s (blockQ i Q) := by subst h; rfl
theorem n_loop {c a : Code} (h : c = .loop a) {Q : Xit → Env → St → Prop} : wp X c ρ s Q = W X (.loop a) ρ s Q := by subst h; rfl
theorem n_scope {c a : Code} (h : c = .scope a) {Q : Xit → Env → St → Prop} : wp X c ρ s Q = W X (.scope a) ρ s Q := by subst h; rfl
theorem n_skip {c : Code} (h : c = .skip) {Q : Xit → Env → St → Prop} : wp X c ρ s Q = Q .normal ρ s := by subst h; rfl
theorem n_exit {c : Code} {i : Nat} (h : c = .exit i) {Q : Xit → Env → St → Prop} : wp X c ρ s Q = Q (.exit i) ρ s := by subst h; rfl
theorem n_goto {c : Code} {i : Nat} (h : c = .goto i) {Q : Xit → Env → St → Prop} : wp X c ρ s Q = Q (.goto i) ρ s := by subst h; rfl
theorem n_label {c : Code} {i : Nat} (h : c = .label i) {Q : Xit → Env → St → Prop} : wp X c ρ s Q = Q .normal ρ s := by subst h; rfl
theorem n_ret {c : Code} (h : c = .ret) {Q : Xit → Env → St → Prop} : wp X c ρ s Q = Q .ret ρ s := by subst h; rfl
theorem n_region {c : Code} {id : Nat} {ops : Array Oper} {draw : Bool} (h : c = .region id ops draw) (hok : regOk X ops.toList draw = true) {ρ : Env} {s : St} {Q : Xit → Env → St → Prop} : wp X c ρ s Q = wpS X (ops.toList.map (strip1 ops)) ρ s (Q .normal) := by
  subst h
  show (if _ then _ else _) = _
  rw [if_pos hok]
theorem n_regionD {c : Code} {id : Nat} {ops : Array Oper} {draw : Bool} {m : List (Nat × List Nat)} (h : c = .region id ops draw) (hno : regOk X ops.toList draw = false) (hst : statOk X ops.toList = true) (hm : metaOf X ops.toList = m) {ρ : Env} {s : St} {Q : Xit → Env → St → Prop} :
    wp X c ρ s Q = wpD X (zipD (ops.toList.map (strip1 ops)) m) 0 [] [] ρ s (Q .normal) := by
  subst h
  subst hm
  show (if _ then _ else _) = _
  rw [if_neg (by rw [hno]; simp)]
  simp only [hst, true_and]

/-! Operations -/
variable {d : Option Nat} {op : Op} {r : List SO} {K : Env → St → Prop} {k : Value → St → Prop}
def KS (X : Prg) (d : Option Nat) (r : List SO) (ρ : Env) (K : Env → St → Prop) (v : Value) (s : St) : Prop := wpS X r (ρ.put d v) s K
theorem KS_eq {v : Value} : KS X d r ρ K v s = wpS X r (ρ.put d v) s K := rfl
def guardW (X : Prg) (b : Bool) (d : Option Nat) (op : Op) (r : List SO) (ρ : Env) (s : St) (K : Env → St → Prop) : Prop := match b with
  | true => opV X op ρ s (KS X d r ρ K)
  | false => wpS X r (ρ.put d undef) s K
theorem wpS_nil : wpS X [] ρ s K = K ρ s := rfl
theorem wpS_always : wpS X (⟨d, op, .always⟩ :: r) ρ s K = opV X op ρ s (KS X d r ρ K) := rfl
theorem wpS_never : wpS X (⟨d, op, .never⟩ :: r) ρ s K = wpS X r (ρ.put d undef) s K := rfl
theorem wpS_on {t : Nat} {w : Bool} : wpS X (⟨d, op, .on t w⟩ :: r) ρ s K = guardW X (isB (ρ.get t) w) d op r ρ s K := by
  cases h : isB (ρ.get t) w with
  | true => simp only [wpS, wantS, h, guardW]; rfl
  | false => simp only [wpS, wantS, h, guardW]
theorem guardW_true : guardW X true d op r ρ s K = opV X op ρ s (KS X d r ρ K) := rfl
theorem guardW_false : guardW X false d op r ρ s K = wpS X r (ρ.put d undef) s K := rfl
theorem guardW_dec {p : Prop} [Decidable p] (h1 : p → opV X op ρ s (KS X d r ρ K)) (h2 : ¬ p → wpS X r (ρ.put d undef) s K) : guardW X (decide p) d op r ρ s K := by
  by_cases h : p
  · rw [decide_eq_true h]; exact h1 h
  · rw [decide_eq_false h]; exact h2 h
theorem guardW_ndec {p : Prop} [Decidable p] (h1 : ¬ p → opV X op ρ s (KS X d r ρ K)) (h2 : p → wpS X r (ρ.put d undef) s K) : guardW X (!decide p) d op r ρ s K := by
  by_cases h : p
  · rw [decide_eq_true h]; exact h2 h
  · rw [decide_eq_false h]; exact h1 h
theorem guardW_split {b : Bool} (h1 : b = true → opV X op ρ s (KS X d r ρ K)) (h2 : b = false → wpS X r (ρ.put d undef) s K) : guardW X b d op r ρ s K := by
  cases b with
  | true => exact h1 rfl
  | false => exact h2 rfl
def pendP (p : Option (St → Prop)) (s : St) : Prop := match p with | some p => p s | none => True
def histP (X : Prg) (p : Option St) (op : Op) (ρ : Env) (v : Value) : Prop := match p with | some s => sameRead X op ρ v s | none => False
def isSomeV (p : Option (Value × St)) (v : Value) : Prop := ∃ s2, p = some (v, s2)
theorem isSomeV_some {v v' : Value} {s : St} : isSomeV (some (v', s)) v = (v' = v) := by simp [isSomeV]
/-! the same, where reads are looked at -/
def KD (X : Prg) (kind : Nat) (chk : List Nat) (op : Op) (d : Option Nat) (r : List SD) (i : Nat) (hist : List (Nat × St)) (pend : List (Nat × (St → Prop))) (ρ : Env) (s : St) (K : Env → St → Prop) (v : Value) (s' : St) : Prop :=
  if kind = 1 then holdsAll pend s' chk ∧ wpD X r (i + 1) ((i, s) :: hist) pend (ρ.put d v) s' K
  else if kind = 2 then aeqSelf v ∧ readAll X hist op ρ v chk ∧ wpD X r (i + 1) hist ((i, sameRead X op ρ v) :: pend) (ρ.put d v) s' K
  else wpD X r (i + 1) hist pend (ρ.put d v) s' K
section
variable {chk : List Nat} {q : List SD} {i kind : Nat} {hist : List (Nat × St)} {pend : List (Nat × (St → Prop))} {s' : St} {v : Value}
theorem KD_0 : KD X 0 chk op d q i hist pend ρ s K v s' = wpD X q (i + 1) hist pend (ρ.put d v) s' K := rfl
theorem KD_1 : KD X 1 chk op d q i hist pend ρ s K v s' = (holdsAll pend s' chk ∧ wpD X q (i + 1) ((i, s) :: hist) pend (ρ.put d v) s' K) := rfl
theorem KD_2 : KD X 2 chk op d q i hist pend ρ s K v s' = (aeqSelf v ∧ readAll X hist op ρ v chk ∧ wpD X q (i + 1) hist ((i, sameRead X op ρ v) :: pend) (ρ.put d v) s' K) := rfl
def guardD (X : Prg) (b : Bool) (kind : Nat) (chk : List Nat) (op : Op) (d : Option Nat) (q : List SD) (i : Nat) (hist : List (Nat × St)) (pend : List (Nat × (St → Prop))) (ρ : Env) (s : St) (K : Env → St → Prop) : Prop := match b with
  | true => opV X op ρ s (KD X kind chk op d q i hist pend ρ s K)
  | false => if kind = 1 then holdsAll pend s chk ∧ wpD X q (i + 1) ((i, s) :: hist) pend (ρ.put d undef) s K else wpD X q (i + 1) hist pend (ρ.put d undef) s K
theorem wpD_nil : wpD X [] i hist pend ρ s K = K ρ s := rfl
theorem wpD_always : wpD X (⟨⟨d, op, .always⟩, kind, chk⟩ :: q) i hist pend ρ s K = opV X op ρ s (KD X kind chk op d q i hist pend ρ s K) := rfl
theorem wpD_on {t : Nat} {w : Bool} : wpD X (⟨⟨d, op, .on t w⟩, kind, chk⟩ :: q) i hist pend ρ s K = guardD X (isB (ρ.get t) w) kind chk op d q i hist pend ρ s K := by
  cases h : isB (ρ.get t) w with
  | true => simp only [wpD, wantS, h, guardD]; rfl
  | false => simp only [wpD, wantS, h, guardD]
theorem guardD_true : guardD X true kind chk op d q i hist pend ρ s K = opV X op ρ s (KD X kind chk op d q i hist pend ρ s K) := rfl
theorem guardD_false : guardD X false kind chk op d q i hist pend ρ s K = if kind = 1 then holdsAll pend s chk ∧ wpD X q (i + 1) ((i, s) :: hist) pend (ρ.put d undef) s K else wpD X q (i + 1) hist pend (ρ.put d undef) s K := rfl
theorem guardD_split {b : Bool} (h1 : b = true → opV X op ρ s (KD X kind chk op d q i hist pend ρ s K)) (h2 : b = false → guardD X false kind chk op d q i hist pend ρ s K) : guardD X b kind chk op d q i hist pend ρ s K := by
  cases b with
  | true => exact h1 rfl
  | false => exact h2 rfl
theorem guardD_ndec {p : Prop} [Decidable p] (h1 : ¬ p → opV X op ρ s (KD X kind chk op d q i hist pend ρ s K)) (h2 : p → guardD X false kind chk op d q i hist pend ρ s K) : guardD X (!decide p) kind chk op d q i hist pend ρ s K := by
  by_cases h : p
  · rw [decide_eq_true h]; exact h2 h
  · rw [decide_eq_false h]; exact h1 h
theorem guardD_dec {p : Prop} [Decidable p] (h1 : p → opV X op ρ s (KD X kind chk op d q i hist pend ρ s K)) (h2 : ¬ p → guardD X false kind chk op d q i hist pend ρ s K) : guardD X (decide p) kind chk op d q i hist pend ρ s K := by
  by_cases h : p
  · rw [decide_eq_true h]; exact h1 h
  · rw [decide_eq_false h]; exact h2 h
theorem zipD_cons {o : SO} {l : List SO} {m : Nat × List Nat} {ms : List (Nat × List Nat)} : zipD (o :: l) (m :: ms) = ⟨o, m.1, m.2⟩ :: zipD l ms := rfl
theorem zipD_nil {ms : List (Nat × List Nat)} : zipD [] ms = [] := by cases ms <;> rfl
theorem holdsAll_nil : holdsAll pend s [] = True := rfl
theorem holdsAll_cons {j : Nat} : holdsAll pend s (j :: chk) = (pendP (lookN pend j) s ∧ holdsAll pend s chk) := by
  simp only [holdsAll, pendP]
theorem readAll_nil : readAll X hist op ρ v [] = True := rfl
theorem readAll_cons {j : Nat} : readAll X hist op ρ v (j :: chk) = (histP X (lookN hist j) op ρ v ∧ readAll X hist op ρ v chk) := by
  simp only [readAll, histP]
theorem pendP_some {p : St → Prop} : pendP (some p) s = p s := rfl
theorem pendP_none : pendP none s = True := rfl
theorem histP_some {s1 : St} : histP X (some s1) op ρ v = sameRead X op ρ v s1 := rfl
theorem lookN_cons {α : Type} {i j : Nat} {a : α} {l : List (Nat × α)} : lookN ((i, a) :: l) j = if i = j then some a else lookN l j := rfl
theorem lookN_nil {α : Type} {j : Nat} : lookN ([] : List (Nat × α)) j = none := rfl
theorem sameRead_eq : sameRead X op ρ v s = isSomeV (aop X (evo ρ) op s) v := rfl
theorem aeqSelf_int {k : IntKind} {n : Int} : aeqSelf (.int k n) = True := by simp [aeqSelf, aeq]
theorem aeqSelf_bool {b : Bool} : aeqSelf (.bool b) = True := by simp [aeqSelf, aeq]
theorem aeqSelf_string {b : ByteArray} : aeqSelf (.string b) = True := by simp [aeqSelf, aeq]
theorem aeqSelf_ptr {a : Option Addr} : aeqSelf (.pointer a) = True := by simp [aeqSelf, aeq]
theorem aeqSelf_slice {a : Option Addr} {l c : Nat} : aeqSelf (.slice a l c) = True := by simp [aeqSelf, aeq]
theorem aeqSelf_map {a : Option Nat} : aeqSelf (.map a) = True := by simp [aeqSelf, aeq]
end
def contV (p : Option (Value × St)) (k : Value → St → Prop) : Prop := match p with
  | some (v, s') => k v s'
  | none => False
def retV (p : Option Value) (s : St) (k : Value → St → Prop) : Prop := match p with
  | some v => k v s
  | none => False
def stV (p : Option St) (k : Value → St → Prop) : Prop := match p with
  | some s' => k undef s'
  | none => False
def fcallV (X : Prg) (p : Option (Nat × Array Value × Array Value)) (args : List Value) (s : St) (k : Value → St → Prop) : Prop := match p with
  | some (n, a, b) => WC X n (a.toList ++ args ++ b.toList) s k
  | none => False
theorem contV_some {v : Value} {s' : St} : contV (some (v, s')) k = k v s' := rfl
theorem retV_some {v : Value} : retV (some v) s k = k v s := rfl
theorem stV_some {s' : St} : stV (some s') k = k undef s' := rfl
theorem fcallV_some {n : Nat} {a b : Array Value} {args : List Value} : fcallV X (some (n, a, b)) args s k = WC X n (a.toList ++ args ++ b.toList) s k := rfl
theorem opV_gen (h : isCall op = none) : opV X op ρ s k = contV (aop X (evo ρ) op s) k := by
  unfold opV contV
  simp only [h]
  try rfl
theorem contV_map {o : Option Value} : contV (o.map fun v => (v, s)) k = retV o s k := by cases o <;> rfl
theorem contV_st {o : Option St} : contV (o.map fun s' => (undef, s')) k = stV o k := by cases o <;> rfl
theorem O_move {x : Operand} : opV X (.move x) ρ s k = k (evo ρ x) s := rfl
theorem O_assign {x : Operand} : opV X (.assign x) ρ s k = k (evo ρ x) s := rfl
theorem O_pick {c a b : Operand} : opV X (.pick c a b) ρ s k = retV (pickP (boolOf (evo ρ c)) (evo ρ a) (evo ρ b)) s k := by
  rw [opV_gen rfl]
  simp only [aop]
  generalize evo ρ c = v
  cases v with
  | bool t => cases t <;> rfl
  | _ => rfl
theorem O_bin {op : BinOp} {t : TypeId} {x y : Operand} {p : TypeId} : opV X (.binOp op t x y p) ρ s k = retV (binOpv X op t (evo ρ x) (evo ρ y)) s k := by rw [opV_gen rfl]; exact contV_map
theorem O_un {op : UnOp} {t : TypeId} {x : Operand} : opV X (.unOp op t x) ρ s k = retV (unOpv op (evo ρ x)) s k := by rw [opV_gen rfl]; exact contV_map
theorem O_load {t : TypeId} {a : Operand} : opV X (.load t a) ρ s k = retV (loadv X t (evo ρ a) s) s k := by rw [opV_gen rfl]; exact contV_map
theorem O_nilCheck {x : Operand} : opV X (.nilCheck x) ρ s k = retV (nilCheckv (evo ρ x)) s k := by rw [opV_gen rfl]; exact contV_map
theorem O_fieldAddr {t : TypeId} {x : Operand} {f : Nat} : opV X (.fieldAddr t x f) ρ s k = retV (fieldAddrv X t (evo ρ x) f) s k := by rw [opV_gen rfl]; exact contV_map
theorem O_field {t : TypeId} {x : Operand} {f : Nat} : opV X (.field t x f) ρ s k = retV (fieldv X t (evo ρ x) f) s k := by rw [opV_gen rfl]; exact contV_map
theorem O_indexAddr {t : TypeId} {x i : Operand} : opV X (.indexAddr t x i) ρ s k = retV (indexAddrv X t (evo ρ x) (evo ρ i)) s k := by rw [opV_gen rfl]; exact contV_map
theorem O_index {t : TypeId} {x i : Operand} : opV X (.index t x i) ρ s k = retV (indexv X t (evo ρ x) (evo ρ i)) s k := by rw [opV_gen rfl]; exact contV_map
theorem O_slice {t : TypeId} {x : Operand} {lo hi mx : Option Operand} : opV X (.slice t x lo hi mx) ρ s k = retV (sliceOp X t (evo ρ x) (lo.map (evo ρ)) (hi.map (evo ρ)) (mx.map (evo ρ))) s k := by rw [opV_gen rfl]; exact contV_map
theorem O_build {t : TypeId} {ps : Array (Nat × Operand)} : opV X (.build t ps) ρ s k = retV (buildv X t (evParts (evo ρ) ps)) s k := by rw [opV_gen rfl]; exact contV_map
theorem O_lookup {t : TypeId} {m kk : Operand} {ok : Bool} : opV X (.lookup t m kk ok) ρ s k = retV (lookupv X t (evo ρ m) (evo ρ kk) ok s) s k := by rw [opV_gen rfl]; exact contV_map
theorem O_extract {t : Operand} {i : Nat} : opV X (.extract t i) ρ s k = retV (tupOf (evo ρ t) i) s k := by
  rw [opV_gen rfl]
  simp only [aop]
  generalize evo ρ t = v
  cases v with
  | tuple vs => exact contV_map
  | _ => rfl
theorem O_store {t : TypeId} {a v : Operand} : opV X (.store t a v) ρ s k = stV (storev X t (evo ρ a) (evo ρ v) s) k := by rw [opV_gen rfl]; exact contV_st
theorem O_mapUpdate {t : TypeId} {m kk v : Operand} : opV X (.mapUpdate t m kk v) ρ s k = stV (mapUpdatev X t (evo ρ m) (evo ρ kk) (evo ρ v) s) k := by rw [opV_gen rfl]; exact contV_st
theorem O_convert {a b : TypeId} {x : Operand} : opV X (.convert a b x) ρ s k = contV (convertv X a b (evo ρ x) s) k := opV_gen rfl
theorem O_builtin {b : Builtin} {args : Array Operand} {ts : Array TypeId} : opV X (.call ⟨.builtin b, args, ts⟩) ρ s k = contV (builtinv X b ts (args.toList.map (evo ρ)) s) k := opV_gen rfl
theorem O_call {f : Operand} {args : Array Operand} {ts : Array TypeId} : opV X (.call ⟨.value f, args, ts⟩) ρ s k = fcallV X (funOf (evo ρ f)) (args.toList.map (evo ρ)) s k := rfl
theorem O_makeFunc {fn : Fn} {first captured : Array Operand} : opV X (.makeFunc fn first captured) ρ s k = k (.func fn (first.map (evo ρ)) (captured.map (evo ρ))) s := rfl
theorem O_buildSlice {t n : Nat} {ps : Array (Nat × Operand)} : opV X (.buildSlice t n ps) ρ s k = contV (bslicev X t n (evParts (evo ρ) ps) s) k := opV_gen rfl
def newV (o : Option Ty) (t : TypeId) (z : Option Value) (s : St) (k : Value → St → Prop) : Prop := match o with
  | some ty => k (ptr s.size 0) (s.push (.own ⟨(z.getD ty.zero).cells.toList, t, 0, 0, false⟩))
  | none => False
theorem newV_some {ty : Ty} {t : TypeId} {z : Option Value} : newV (some ty) t z s k = k (ptr s.size 0) (s.push (.own ⟨(z.getD ty.zero).cells.toList, t, 0, 0, false⟩)) := rfl
theorem O_alloc {t : TypeId} : opV X (.alloc t) ρ s k = newV (X.ty t) t none s k := by
  rw [opV_gen rfl]
  simp only [aop]
  cases X.ty t <;> rfl
theorem O_box {t : TypeId} {v : Operand} : opV X (.box t v) ρ s k = newV (X.ty t) t (some (evo ρ v)) s k := by
  rw [opV_gen rfl]
  simp only [aop]
  cases X.ty t <;> rfl
def mkslicev (X : Prg) (t : Nat) (l c : Value) (s : St) : Option (Value × St) := match X.und t, l, c with
  | some (.slice e), .int _ n, .int _ m => match X.ty e with
    | some te => if 0 ≤ n ∧ n ≤ m ∧ roomOk m.toNat te.bytes then
        some (.slice (some ⟨s.size, 0, none⟩) n.toNat (capX m.toNat), s.push (.own ⟨reps te.zero.cells.toList m.toNat, e, 0, 0, false⟩))
      else none
    | none => none
  | _, _, _ => none
theorem O_makeSlice {t : Nat} {l c : Operand} : opV X (.makeSlice t l c) ρ s k = contV (mkslicev X t (evo ρ l) (evo ρ c) s) k := opV_gen rfl
theorem O_gen (h : isCall op = none) : opV X op ρ s k = contV (aop X (evo ρ) op s) k := opV_gen h

/-! Loops -/
def iterP (I : Nat → Env → St → Prop) (m : Nat) (Q : Xit → Env → St → Prop) (e : Xit) (ρ : Env) (s : St) : Prop := match e with
  | .normal => ∃ m', m' < m ∧ I m' ρ s
  | e => Q e ρ s
theorem iterP_normal {I : Nat → Env → St → Prop} {m : Nat} {Q : Xit → Env → St → Prop} : iterP I m Q .normal ρ s = ∃ m', m' < m ∧ I m' ρ s := rfl
theorem iterP_exit {I : Nat → Env → St → Prop} {m i : Nat} {Q : Xit → Env → St → Prop} : iterP I m Q (.exit i) ρ s = Q (.exit i) ρ s := rfl
theorem iterP_goto {I : Nat → Env → St → Prop} {m i : Nat} {Q : Xit → Env → St → Prop} : iterP I m Q (.goto i) ρ s = Q (.goto i) ρ s := rfl
theorem iterP_ret {I : Nat → Env → St → Prop} {m : Nat} {Q : Xit → Env → St → Prop} : iterP I m Q .ret ρ s = Q .ret ρ s := rfl
theorem W_iter {c : Code} {Q : Xit → Env → St → Prop} (I : Nat → Env → St → Prop) (m : Nat) (h0 : I m ρ s) (h : ∀ m ρ s, I m ρ s → wp X c ρ s (iterP I m Q)) : W X (.loop c) ρ s Q := by
  induction m using Nat.strongRecOn generalizing ρ s with
  | _ m ih =>
    refine W_loop (W_mono (W_of_wp _ _ _ _ (h m ρ s h0)) fun e ρ' s' h' => ?_)
    cases e with
    | normal =>
      obtain ⟨m', h1, h2⟩ := h'
      exact ih m' h1 h2
    | _ => exact h'

/-! Calls -/
theorem WC_in {f : Nat} {args : List Value} {Q : Value → St → Prop} {fn : Func} {c : Code} {rs : List ResultVar} (hk : X.known f args = none) (hf : X.fn f = some fn) (hc : fn.body = some c) (hr : fn.results.toList = rs) {n : Nat} (hn : fn.ntmps = n) (hl : Nat.ble args.length n = true) (h : wp X c (Env.of args) s (rtP X rs Q)) : WC X f args s Q := by
  subst hr
  exact WC_enter hk hf hc (by rw [hn]; exact Nat.le_of_ble_eq_true hl) (W_of_wp _ _ _ _ h)
/-- What is known is known of closed calls alone. -/
def Closed (k : Nat → List Value → Option Value) : Prop := ∀ f v l, k f (v :: l) = none
theorem closed_none : Closed fun _ _ => none := fun _ _ _ => rfl
theorem closed_knL (l : List Nat) : Closed (knL l) := fun f v r => by simp [knL]
end
attribute [irreducible] wp wpS wpD opV contV retV stV fcallV newV guardW guardD condP KS KD seqP rtP resK iterP
end Go.Proofs.Ytndedkpcfjnecaa.Ab
