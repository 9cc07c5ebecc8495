/- Regions whose order is open. -/
import Derived.Test.YtndedkpcfjnecaaA11
set_option linter.unusedSimpArgs false
set_option linter.unusedVariables false
namespace Go.Proofs.Ytndedkpcfjnecaa.Ab

/-! ### equal values -/
theorem aeq_both : ∀ (n : Nat), (∀ a b, aeq n a b = true → a = b) ∧ (∀ xs ys, aeq.aeqs n xs ys = true → xs = ys) := by
  intro n
  induction n with
  | zero =>
    constructor
    · intro a b h
      cases a <;> cases b <;> simp [aeq] at h <;> first
        | (simp_all; done)
        | (congr 1; apply ByteArray.ext; exact h)
        | rfl
    · intro xs ys h
      cases xs <;> cases ys <;> simp [aeq.aeqs] at h
      rfl
  | succ n ih =>
    constructor
    · intro a b h
      cases a <;> cases b <;> simp [aeq] at h <;> first
        | (simp_all; done)
        | (congr 1; apply ByteArray.ext; exact h)
        | rfl
        | (congr 1; exact Array.toList_inj.1 (ih.2 _ _ h))
        | (obtain ⟨rfl, h1, h2⟩ := h
           rw [Array.toList_inj.1 (ih.2 _ _ h1), Array.toList_inj.1 (ih.2 _ _ h2)])
        | (obtain ⟨rfl, h1⟩ := h
           rw [ih.1 _ _ h1])
    · intro xs ys h
      cases xs <;> cases ys <;> simp [aeq.aeqs] at h
      · rfl
      · rw [ih.1 _ _ h.1, ih.2 _ _ h.2]
theorem aeq_eq {n : Nat} {a b : Value} (h : aeq n a b = true) : a = b := (aeq_both n).1 a b h

/-! ### the edges -/
theorem mem_iota : ∀ {n i : Nat}, i ∈ iota n ↔ i < n
  | 0, i => by simp [iota]
  | n + 1, i => by simp only [iota, List.mem_append, mem_iota, List.mem_singleton]; omega
def befOf (acc : List Nat) (o : Oper) : Nat := (o.after.toList.filter plainEdge).foldl (fun m e => m ||| 2 ^ e.on ||| acc.getD e.on 0) 0
theorem befs_eq (ops : List Oper) : befs ops = ops.foldl (fun acc o => acc ++ [befOf acc o]) [] := rfl
theorem befs_go : ∀ (ops : List Oper) (acc : List Nat), (ops.foldl (fun acc o => acc ++ [befOf acc o]) acc).length = acc.length + ops.length ∧ (ops.foldl (fun acc o => acc ++ [befOf acc o]) acc).take acc.length = acc ∧
    ∀ j o, ops[j]? = some o → (ops.foldl (fun acc o => acc ++ [befOf acc o]) acc).getD (acc.length + j) 0 = befOf ((ops.foldl (fun acc o => acc ++ [befOf acc o]) acc).take (acc.length + j)) o
  | [], acc => by simp
  | o :: ops, acc => by
    obtain ⟨h1, h2, h3⟩ := befs_go ops (acc ++ [befOf acc o])
    simp only [List.foldl_cons]
    simp only [List.length_append, List.length_singleton] at h1 h2 h3
    have h4 : (ops.foldl (fun acc o => acc ++ [befOf acc o]) (acc ++ [befOf acc o])).take acc.length = acc := by
      have := congrArg (List.take acc.length) h2
      rw [List.take_take, Nat.min_eq_left (by omega)] at this
      rw [this]; simp
    refine ⟨by simp only [h1, List.length_cons]; omega, h4, fun j p hj => ?_⟩
    cases j with
    | zero =>
      simp only [List.getElem?_cons_zero, Option.some.injEq] at hj
      subst hj
      rw [Nat.add_zero, h4]
      have := congrArg (fun l => l.getD acc.length 0) h2
      simp only [List.getD_eq_getElem?_getD, List.getElem?_take, if_pos (Nat.lt_succ_self _)] at this
      simp only [List.getD_eq_getElem?_getD]
      rw [this]; simp
    | succ j =>
      have := h3 j p (by simpa using hj)
      rw [show acc.length + (j + 1) = acc.length + 1 + j by omega]
      exact this
theorem bef_bits (acc : List Nat) (i : Nat) : ∀ (l : List Edge) (m : Nat), (l.foldl (fun m e => m ||| 2 ^ e.on ||| acc.getD e.on 0) m).testBit i = true → m.testBit i = true ∨ ∃ e ∈ l, e.on = i ∨ (acc.getD e.on 0).testBit i = true
  | [], m, h => .inl h
  | e :: l, m, h => by
    rcases bef_bits acc i l _ h with h1 | ⟨e', he', h1⟩
    · rw [Nat.testBit_or, Nat.testBit_or, Nat.testBit_two_pow] at h1
      simp only [Bool.or_eq_true, decide_eq_true_eq] at h1
      rcases h1 with (h1 | h1) | h1
      · exact .inl h1
      · exact .inr ⟨e, by simp, .inl h1⟩
      · exact .inr ⟨e, by simp, .inr h1⟩
    · exact .inr ⟨e', by simp [he'], h1⟩
theorem befs_step {ops : List Oper} {j i : Nat} {o : Oper} (ho : ops[j]? = some o) (h : ((befs ops).getD j 0).testBit i = true) :
    ∃ e ∈ o.after.toList, plainEdge e = true ∧ (e.on = i ∨ (e.on < j ∧ ((befs ops).getD e.on 0).testBit i = true)) := by
  obtain ⟨_, _, h3⟩ := befs_go ops []
  have := h3 j o ho
  simp only [List.length_nil, Nat.zero_add] at this
  rw [befs_eq, this] at h
  rcases bef_bits _ i _ _ h with h1 | ⟨e, he, h1⟩
  · simp at h1
  · rw [List.mem_filter] at he
    refine ⟨e, he.1, he.2, ?_⟩
    rcases h1 with h1 | h1
    · exact .inl h1
    · right
      by_cases hl : e.on < j
      · refine ⟨hl, ?_⟩
        rw [befs_eq]
        rw [List.getD_eq_getElem?_getD, List.getElem?_take, if_pos hl, ← List.getD_eq_getElem?_getD] at h1
        exact h1
      · rw [List.getD_eq_getElem?_getD, List.getElem?_take, if_neg hl] at h1
        simp at h1

structure Stat (X : Prg) (ops : List Oper) : Prop where
  up : ∀ (i : Nat) (o : Oper), ops[i]? = some o → ∀ e ∈ o.after.toList, plainEdge e = true → e.on < i
  nosel : ∀ (i : Nat) (o : Oper) (cs : Array SelectCase) (b : Bool), ops[i]? = some o → o.op ≠ .select cs b
  looks : ∀ (i j : Nat) (o p : Oper) (d : Nat), ops[i]? = some o → ops[j]? = some p → j ≠ i → p.dst = some d → d ∈ looks ops o → ((befs ops).getD i 0).testBit j = true ∨ ((befs ops).getD j 0).testBit i = true
  dst : ∀ (i j : Nat) (o p : Oper) (d : Nat), ops[i]? = some o → ops[j]? = some p → j ≠ i → p.dst = some d → o.dst ≠ some d
  eff : ∀ (i j : Nat) (o p : Oper), ops[i]? = some o → ops[j]? = some p → j ≠ i → isEff o.op = true → isEff p.op = true → ((befs ops).getD i 0).testBit j = true ∨ ((befs ops).getD j 0).testBit i = true
  new : ∀ (i j : Nat) (o p : Oper), ops[i]? = some o → ops[j]? = some p → j < i → isEff o.op = true → isNew X p.op = true → ((befs ops).getD i 0).testBit j = true
theorem readsOk_use {X : Prg} {ops : List Oper} {T : Env} {tr : List (Env × St)} (h : readsOk X ops T tr = true) {i j : Nat} {o p : Oper} {at_ : Env × St} (hi : ops[i]? = some o) (ht : tr[i]? = some at_) (hj : ops[j]? = some p)
    (he : isEff o.op = false) (hn : isNew X o.op = false) (hp : isEff p.op = true) (hb1 : ((befs ops).getD i 0).testBit j = false) (hb2 : ((befs ops).getD j 0).testBit i = false) (hw : wantedE ops.toArray o at_.1 = true) :
    sameAt X T o at_.1 (if j < i then tr[j]? else tr[j + 1]?) = true := by
  have hij := (List.getElem?_eq_some_iff.1 hi).1
  have hjl := (List.getElem?_eq_some_iff.1 hj).1
  have hm : j ∈ effsOf ops := by
    unfold effsOf
    rw [List.mem_filter]
    exact ⟨mem_iota.2 hjl, by rw [hj]; exact hp⟩
  unfold readsOk at h
  rw [Bool.or_eq_true] at h
  rcases h with h | h
  · rw [List.isEmpty_iff] at h
    rw [h] at hm; cases hm
  · have h1 := List.all_eq_true.1 h i (mem_iota.2 hij)
    rw [hi, ht] at h1
    simp only [he, hn, Bool.false_or] at h1
    have h2 := List.all_eq_true.1 h1 j hm
    simpa only [hb1, hb2, hw, Bool.false_or, Bool.not_true] using h2
theorem stat_of {X : Prg} {ops : List Oper} (h : statOk X ops = true) : Stat X ops := by
  unfold statOk at h
  have lt : ∀ {i : Nat} {o : Oper}, ops[i]? = some o → i < ops.length := fun h => (List.getElem?_eq_some_iff.1 h).1
  simp only [List.all_eq_true] at h
  have base : ∀ (i : Nat) (o : Oper), ops[i]? = some o → _ := fun i o ho => by
    have := h i (mem_iota.2 (lt ho))
    rw [ho] at this
    simp only [Bool.and_eq_true, List.all_eq_true] at this
    exact this
  have pair : ∀ (i j : Nat) (o p : Oper), ops[i]? = some o → ops[j]? = some p → j ≠ i → _ := fun i j o p ho hp hne => by
    have := (base i o ho).2 j (mem_iota.2 (lt hp))
    rw [hp] at this
    have hb : (j == i) = false := by simpa using hne
    rw [hb] at this
    simp only [Bool.false_or, Bool.and_eq_true] at this
    exact this
  refine ⟨?_, ?_, ?_, ?_, ?_, ?_⟩
  · intro i o ho e he hp
    have := (base i o ho).1.1 e he
    rw [hp] at this
    simpa using this
  · intro i o cs b ho hsel
    have := (base i o ho).1.2
    rw [hsel] at this
    cases this
  · intro i j o p d ho hp hne hd hl
    have := (pair i j o p ho hp hne).1.1.1
    rw [hd] at this
    have hc : (Ab.looks ops o).contains d = true := List.contains_iff_mem.2 hl
    simp only [hc, Bool.not_true, Bool.false_or, Bool.or_eq_true] at this
    exact this
  · intro i j o p d ho hp hne hd ho2
    have := (pair i j o p ho hp hne).1.1.2
    rw [hd, ho2] at this
    simp at this
  · intro i j o p ho hp hne h1 h2
    have := (pair i j o p ho hp hne).1.2
    rw [h1, h2] at this
    simpa using this
  · intro i j o p ho hp hne h1 h2
    have := (pair i j o p ho hp (by omega)).2
    rw [h1, h2] at this
    simpa [hne] using this
theorem bit_lt {X : Prg} {ops : List Oper} (hs : Stat X ops) : ∀ (i j : Nat), ((befs ops).getD i 0).testBit j = true → i < ops.length → j < i := by
  intro i
  induction i using Nat.strongRecOn with
  | _ i ih =>
    intro j h hi
    obtain ⟨e, he, hp, h1⟩ := befs_step (List.getElem?_eq_getElem hi) h
    have := hs.up i _ (List.getElem?_eq_getElem hi) e he hp
    rcases h1 with h1 | ⟨h1, h2⟩
    · omega
    · have := ih e.on h1 j h2 (by omega)
      omega
theorem bit_closed {X : Prg} {ops : List Oper} (hs : Stat X ops) {b : Nat → Bool} (hc : ∀ (j : Nat) (o : Oper), ops[j]? = some o → b j = true → ∀ e ∈ o.after.toList, plainEdge e = true → b e.on = true) :
    ∀ (i j : Nat), ((befs ops).getD i 0).testBit j = true → i < ops.length → b i = true → b j = true := by
  intro i
  induction i using Nat.strongRecOn with
  | _ i ih =>
    intro j h hi hb
    obtain ⟨e, he, hp, h1⟩ := befs_step (List.getElem?_eq_getElem hi) h
    have hbe := hc i _ (List.getElem?_eq_getElem hi) hb e he hp
    rcases h1 with h1 | ⟨h1, h2⟩
    · rw [← h1]; exact hbe
    · exact ih e.on h1 j h2 (by omega) hbe

/-! ### the states in the text's order -/
structure Tr2 (call : Caller) (X : Prg) (all : Array Oper) (L : List Oper) (ρ : Env) (s : St) (T : Env) (s' : St) (tr : List (Env × St)) (R : Nat → Env) (S : Nat → St) : Prop where
  r0 : R 0 = ρ
  s0 : S 0 = s
  rn : R L.length = T
  sn : S L.length = s'
  tr : ∀ i, i ≤ L.length → tr[i]? = some (R i, S i)
  step : ∀ i o, L[i]? = some o → (wantedE all o (R i) = true ∧ ∃ v, stepOp call X o (R i) (S i) = some (v, S (i + 1)) ∧ R (i + 1) = (R i).put o.dst v) ∨
    (wantedE all o (R i) = false ∧ S (i + 1) = S i ∧ R (i + 1) = (R i).put o.dst undef)
theorem trace_spec {call : Caller} {X : Prg} {all : Array Oper} : ∀ (L : List Oper) (ρ : Env) (s : St) (T : Env) (s' : St), runOps call X all L ρ s = some (T, s') → ∃ R S, Tr2 call X all L ρ s T s' (trace call X all L ρ s) R S
  | [], ρ, s, T, s', h => by
    cases h
    refine ⟨fun _ => ρ, fun _ => s, rfl, rfl, rfl, rfl, fun i hi => ?_, fun i o h => by simp at h⟩
    obtain rfl : i = 0 := by simpa using hi
    rfl
  | o :: L, ρ, s, T, s', h => by
    have go : ∀ (ρ1 : Env) (s1 : St), runOps call X all L ρ1 s1 = some (T, s') → trace call X all (o :: L) ρ s = (ρ, s) :: trace call X all L ρ1 s1 →
        ((wantedE all o ρ = true ∧ ∃ v, stepOp call X o ρ s = some (v, s1) ∧ ρ1 = ρ.put o.dst v) ∨ (wantedE all o ρ = false ∧ s1 = s ∧ ρ1 = ρ.put o.dst undef)) → ∃ R S, Tr2 call X all (o :: L) ρ s T s' (trace call X all (o :: L) ρ s) R S := by
      intro ρ1 s1 h1 htr hst
      obtain ⟨R, S, h2⟩ := trace_spec L ρ1 s1 T s' h1
      refine ⟨fun i => match i with | 0 => ρ | i + 1 => R i, fun i => match i with | 0 => s | i + 1 => S i, rfl, rfl, h2.rn, h2.sn, fun i hi => ?_, fun i p hp => ?_⟩
      · rw [htr]
        cases i with
        | zero => rfl
        | succ i => simpa using h2.tr i (by simpa using hi)
      · cases i with
        | zero =>
          simp only [List.getElem?_cons_zero, Option.some.injEq] at hp
          subst hp
          simp only [h2.r0, h2.s0]
          exact hst
        | succ i => exact h2.step i p (by simpa using hp)
    simp only [runOps] at h
    split at h
    · rename_i hw
      split at h
      · rename_i v s1 h1
        exact go _ s1 h (by simp only [trace, hw, if_true, h1]) (.inl ⟨hw, v, h1, rfl⟩)
      · cases h
    · rename_i hw
      exact go _ s h (by simp only [trace, hw, if_false, Bool.false_eq_true]) (.inr ⟨by simpa using hw, rfl, rfl⟩)
end Go.Proofs.Ytndedkpcfjnecaa.Ab
